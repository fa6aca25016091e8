/-
  Memory words of this place's proofs: a block known whole ('Blk'), what a call may turn ('Touch'). Over any world; no program is named · A list of the call's own, made behind a world. No program is named · Maps: what lies in a map's block, look-up, store, deletion. Over any program · Map keys that are arrays of two integers · conn: a connection in plain words: its numbers, what a call brings, and each function of it. No program is named.
-/
import Derived.WalkKit
import Derived.WalkSpells
import Derived.WalkLawsBesides
import Derived.Deep.Draws
import Derived.Lib.Hide
import Derived.MapKept
import Derived.OwnWalk
import Derived.Maps.Own
import Derived.Maps.OwnSet
import Derived.ChangeKeysEq
namespace Go.Proofs.YtipaobpmojahaaaGreat
open Go.RowKit

/-- Block g holds just these cells, none frozen. -/
def Blk (w : World) (g : Nat) (t : TypeId) (cs : List Value) : Prop := w.heap[g]? = some (.cells cs.toArray t (0, 0))

/-- What lay there and is not of S is as it was. -/
structure Touch (S : Nat → Prop) (w w' : World) : Prop where
  os : w'.os = w.os
  tape : w'.tape = w.tape
  output : w'.output = w.output
  size : w.heap.size ≤ w'.heap.size
  block : ∀ k, k < w.heap.size → ¬ S k → w'.heap[k]? = w.heap[k]?

section
variable {w w' w'' : World} {g g' : Nat} {t t' : TypeId} {cs cs' : List Value} {S T U : Nat → Prop}

theorem Blk.lt (h : Blk w g t cs) : g < w.heap.size := by
  rcases Nat.lt_or_ge g w.heap.size with hlt | hge
  · exact hlt
  · unfold Blk at h; rw [Array.getElem?_eq_none hge] at h; cases h
theorem Blk.cell (h : Blk w g t cs) (i : Nat) : w.cell? ⟨g, i, none⟩ = cs[i]? := by
  rw [cell_of_row w g i cs.toArray t (0, 0) h]; simp
theorem Blk.frozen (h : Blk w g t cs) (i : Nat) : w.frozen? ⟨g, i, none⟩ = false := by
  unfold Blk at h
  simp [World.frozen?, h]
theorem Blk.new (w : World) (t : TypeId) (cs : List Value) : Blk (w.alloc (.cells cs.toArray t)) w.heap.size t cs := heap_alloc_new w _
theorem Blk.drew (h : Blk w g t cs) : Blk w.drew g t cs := h
theorem Blk.drewN (h : Blk w g t cs) (n : Nat) : Blk (w.drewN n) g t cs := h
theorem Blk.alloc (h : Blk w g t cs) (o : Obj) : Blk (w.alloc o) g t cs := (Below.heap_alloc w o g h.lt).trans h
theorem Blk.set (h : Blk w g t cs) (i : Nat) (u : Value) : Blk (w.setCell ⟨g, i, none⟩ u) g t (cs.set i u) := by
  unfold Blk at h ⊢
  simp [World.setCell, Array.getElem?_modify, h]
theorem Blk.far (h : Blk w g t cs) {p : Addr} (hp : g ≠ p.block) (u : Value) : Blk (w.setCell p u) g t cs := (Below.heap_setCell w p u g hp).trans h
theorem Blk.ne_ (h : Blk w g t cs) (h' : Blk w g' t' cs') (hne : t ≠ t') : g ≠ g' := by
  rintro rfl
  unfold Blk at h h'
  rw [h] at h'
  injection h' with h'
  injection h' with _ ht
  exact hne ht
theorem Blk.eq_cells (h : Blk w g t cs) (e : cs = cs') : Blk w g t cs' := e ▸ h
theorem Touch.refl (S : Nat → Prop) (w : World) : Touch S w w := ⟨rfl, rfl, rfl, Nat.le_refl _, fun _ _ _ => rfl⟩
theorem Touch.trans (h : Touch S w w') (h' : Touch T w' w'') (hT : ∀ k, k < w.heap.size → T k → S k) : Touch S w w'' :=
  ⟨h'.os.trans h.os, h'.tape.trans h.tape, h'.output.trans h.output, Nat.le_trans h.size h'.size,
   fun k hk hs => (h'.block k (Nat.lt_of_lt_of_le hk h.size) (fun c => hs (hT k hk c))).trans (h.block k hk hs)⟩
theorem Touch.mono (h : Touch S w w') (hT : ∀ k, k < w.heap.size → S k → T k) : Touch T w w' :=
  ⟨h.os, h.tape, h.output, h.size, fun k hk hs => h.block k hk fun c => hs (hT k hk c)⟩
theorem Touch.drew (h : Touch S w w') : Touch S w w'.drew := ⟨h.os, h.tape, h.output, h.size, h.block⟩
theorem Touch.drewN (h : Touch S w w') (n : Nat) : Touch S w (w'.drewN n) := ⟨h.os, h.tape, h.output, h.size, h.block⟩
theorem Touch.alloc (h : Touch S w w') (o : Obj) : Touch S w (w'.alloc o) :=
  ⟨h.os, h.tape, h.output, by have := h.size; simp; omega, fun k hk hs => (Below.heap_alloc w' o k (Nat.lt_of_lt_of_le hk h.size)).trans (h.block k hk hs)⟩
theorem Touch.setCell (h : Touch S w w') {p : Addr} (hp : p.block < w.heap.size → S p.block) (u : Value) : Touch S w (w'.setCell p u) :=
  ⟨h.os, h.tape, h.output, by simpa using h.size, fun k hk hs => (Below.heap_setCell w' p u k (fun e => hs (e ▸ hp (e ▸ hk)))).trans (h.block k hk hs)⟩
theorem Touch.set1 (w : World) (g i : Nat) (u : Value) : Touch (· = g) w (w.setCell ⟨g, i, none⟩ u) := by
  refine Touch.setCell (Touch.refl _ w) ?_ u
  intro _
  rfl
theorem Touch.st (h : Touch S w w') {g i : Nat} {u : Value} (hs : S g) : Touch S w (w'.setCell ⟨g, i, none⟩ u) := h.setCell (fun _ => hs) _
theorem Touch.blk (h : Touch S w w') (hb : Blk w g t cs) (hs : ¬ S g) : Blk w' g t cs := (h.block g hb.lt hs).trans hb
theorem Touch.below (h : Touch S w w') {B : Nat} (hB : B ≤ w.heap.size) (hs : ∀ k, k < B → ¬ S k) : Below B w w' :=
  ⟨h.os, h.tape, h.output, h.size, fun k hk => h.block k (by omega) (hs k hk)⟩
end

/-- The call touches nothing that was there. -/
abbrev Fresh : World → World → Prop := Touch (fun _ => False)

/-- How an element of a slice lies in memory. -/
structure El (α : Type) where
  e : TypeId
  size : Nat
  bytes : Nat
  zero : Value
  zel : α
  enc : α → List Value
  len : ∀ a, (enc a).length = size
  one : ∀ a, ∀ u ∈ enc a, u.oneCell' = true
  pos : 0 < size
  zsize : zero.cells.size = size
  zenc : enc zel = zero.cells.toList

def El.all {α : Type} (E : El α) (l : List α) : List Value := l.flatMap E.enc
theorem El.all_len {α : Type} (E : El α) (l : List α) : (E.all l).length = l.length * E.size := by
  induction l with
  | nil => simp [El.all]
  | cons a l ih =>
    have : E.all (a :: l) = E.enc a ++ E.all l := by simp [El.all]
    rw [this, List.length_append, ih, E.len, List.length_cons, Nat.add_mul, Nat.one_mul, Nat.add_comm]
theorem El.all_cons {α : Type} (E : El α) (a : α) (l : List α) : E.all (a :: l) = E.enc a ++ E.all l := rfl
theorem El.all_append {α : Type} (E : El α) (l l' : List α) : E.all (l ++ l') = E.all l ++ E.all l' := by simp [El.all]
theorem El.all_one {α : Type} (E : El α) (l : List α) : ∀ u ∈ E.all l, u.oneCell' = true := by
  intro u hu
  obtain ⟨a, _, ha⟩ := List.mem_flatMap.1 hu
  exact E.one a u ha
theorem El.all_drop {α : Type} (E : El α) (l : List α) (k : Nat) : (E.all l).drop (k * E.size) = E.all (l.drop k) := by
  induction k generalizing l with
  | zero => simp
  | succ k ih =>
    cases l with
    | nil => simp [El.all]
    | cons a l =>
      have : E.all (a :: l) = E.enc a ++ E.all l := by simp [El.all]
      rw [this, Nat.add_mul, Nat.one_mul, Nat.add_comm, ← List.drop_drop, List.drop_left' (E.len a), ih, List.drop_succ_cons]
theorem El.all_take {α : Type} (E : El α) (l : List α) (k : Nat) : (E.all l).take (k * E.size) = E.all (l.take k) := by
  induction k generalizing l with
  | zero => simp [El.all]
  | succ k ih =>
    cases l with
    | nil => simp [El.all]
    | cons a l =>
      have h1 : E.all (a :: l) = E.enc a ++ E.all l := by simp [El.all]
      have h2 : E.all (a :: l.take k) = E.enc a ++ E.all (l.take k) := by simp [El.all]
      rw [h1, List.take_succ_cons, h2, Nat.add_mul, Nat.one_mul, Nat.add_comm, List.take_add, List.take_left' (E.len a), List.drop_left' (E.len a), ih]

theorem El.all_get {α : Type} (E : El α) (l : List α) (j : Nat) (u : Value) (h : (E.all l)[j]? = some u) : ∃ (i f : Nat) (hi : i < l.length), j = i * E.size + f ∧ f < E.size ∧ (E.enc l[i])[f]? = some u := by
  induction l generalizing j with
  | nil => simp [El.all] at h
  | cons a l ih =>
    rw [E.all_cons] at h
    by_cases hj : j < E.size
    · rw [List.getElem?_append_left (by rw [E.len]; exact hj)] at h
      exact ⟨0, j, by simp, by omega, hj, h⟩
    · rw [List.getElem?_append_right (by rw [E.len]; omega), E.len] at h
      obtain ⟨i, f, hi, e, hf, hu⟩ := ih _ h
      exact ⟨i + 1, f, by simpa using hi, by rw [Nat.add_mul]; omega, hf, by simpa using hu⟩
theorem exists_list {α : Type} {n : Nat} {p : Nat → α → Prop} (h : ∀ i, i < n → ∃ a, p i a) : ∃ l : List α, l.length = n ∧ ∀ (i : Nat) (hi : i < l.length), p i l[i] := by
  induction n with
  | zero => exact ⟨[], rfl, fun i hi => by simp at hi⟩
  | succ n ih =>
    obtain ⟨l, hl, hp⟩ := ih fun i hi => h i (by omega)
    obtain ⟨a, ha⟩ := h n (by omega)
    refine ⟨l ++ [a], by simp [hl], fun i hi => ?_⟩
    by_cases hi' : i < l.length
    · rw [List.getElem_append_left hi']; exact hp i hi'
    · have : i = n := by simp at hi; omega
      subst this
      rw [List.getElem_append_right (by omega)]
      simpa [hl] using ha

/-- The slice '.slice A l.length c' reads as the list l. -/
def Sl {α : Type} (E : El α) (w : World) (A : Option Addr) (c : Nat) (l : List α) : Prop :=
  l.length ≤ c ∧ c ≤ maxLen ∧ (A = none → c = 0) ∧
  ∀ ad, A = some ad → ad.spot = none ∧ ∃ cs, Blk w ad.block E.e cs ∧ ad.off + c * E.size ≤ cs.length ∧ (cs.drop ad.off).take (l.length * E.size) = E.all l

section
variable {α : Type} {E : El α} {w w' : World} {A : Option Addr} {c : Nat} {l : List α}

theorem Sl.nil (E : El α) (w : World) : Sl E w none 0 [] := ⟨by simp, by simp [maxLen], fun _ => rfl, fun _ h => by cases h⟩
theorem Sl.keep (h : Sl E w A c l) (hk : ∀ ad, A = some ad → w'.heap[ad.block]? = w.heap[ad.block]?) : Sl E w' A c l :=
  ⟨h.1, h.2.1, h.2.2.1, fun ad ha => by
    obtain ⟨h1, cs, hb, h2⟩ := h.2.2.2 ad ha
    exact ⟨h1, cs, (hk ad ha).trans hb, h2⟩⟩
theorem Sl.lt (h : Sl E w A c l) : ∀ ad, A = some ad → ad.block < w.heap.size := fun ad ha => by
  obtain ⟨_, cs, hb, _⟩ := h.2.2.2 ad ha
  exact hb.lt
theorem Sl.touch {S : Nat → Prop} (h : Sl E w A c l) (ht : Touch S w w') (hs : ∀ ad, A = some ad → ¬ S ad.block) : Sl E w' A c l :=
  h.keep fun ad ha => ht.block _ (h.lt ad ha) (hs ad ha)
theorem Sl.drew (h : Sl E w A c l) : Sl E w.drew A c l := h
theorem Sl.alloc (h : Sl E w A c l) (o : Obj) : Sl E (w.alloc o) A c l := h.keep fun ad ha => Below.heap_alloc w o _ (h.lt ad ha)
theorem Sl.setCell (h : Sl E w A c l) {p : Addr} (hp : ∀ ad, A = some ad → ad.block ≠ p.block) (u : Value) : Sl E (w.setCell p u) A c l :=
  h.keep fun ad ha => Below.heap_setCell w p u _ (hp ad ha)
theorem Sl.blk_ne {g : Nat} {t : TypeId} {cs : List Value} (h : Sl E w A c l) (hb : Blk w g t cs) (ht : E.e ≠ t) : ∀ ad, A = some ad → ad.block ≠ g := fun ad ha => by
  obtain ⟨_, cs', hb', _⟩ := h.2.2.2 ad ha
  exact hb'.ne_ hb ht
/-- The cells of a slice. -/
theorem Sl.cells (h : Sl E w A c l) (ad : Addr) (ha : A = some ad) : ∀ j u, (E.all l)[j]? = some u → w.cell? (ad.add j) = some u := by
  intro j u hu
  obtain ⟨hs, cs, hb, hl, he⟩ := h.2.2.2 ad ha
  obtain ⟨g, o, sp⟩ := ad
  obtain rfl : sp = none := hs
  rw [Addr.add_lit, hb.cell]
  have hj : j < (E.all l).length := (List.getElem?_eq_some_iff.1 hu).1
  rw [← he] at hu
  rw [List.getElem?_take, if_pos (by rw [El.all_len] at hj; exact hj), List.getElem?_drop] at hu
  exact hu
/-- Element k's cell f. -/
theorem Sl.at_ (h : Sl E w A c l) (k : Nat) (hk : k < l.length) : ∃ g o, A = some ⟨g, o, none⟩ ∧ g < w.heap.size ∧ ∀ f u, (E.enc l[k])[f]? = some u → w.cell? ⟨g, o + (k * E.size + f), none⟩ = some u := by
  cases A with
  | none => have := h.2.2.1 rfl; have := h.1; omega
  | some ad =>
    obtain ⟨hs, cs, hb, hl, he⟩ := h.2.2.2 ad rfl
    obtain ⟨g, o, sp⟩ := ad
    obtain rfl : sp = none := hs
    refine ⟨g, o, rfl, hb.lt, fun f u hu => ?_⟩
    have := h.cells ⟨g, o, none⟩ rfl (k * E.size + f) u (by
      have h1 : (E.all l).drop (k * E.size) = E.all (l.drop k) := E.all_drop l k
      have h2 : (E.all l)[k * E.size + f]? = (E.all (l.drop k))[f]? := by rw [← h1, List.getElem?_drop]
      rw [h2, List.drop_eq_getElem_cons hk]
      rw [E.all_cons, List.getElem?_append_left (List.getElem?_eq_some_iff.1 hu).1]
      exact hu)
    rw [Addr.add_lit] at this
    exact this
theorem Sl.frozen (h : Sl E w A c l) (g o : Nat) (ha : A = some ⟨g, o, none⟩) (j : Nat) : w.frozen? ⟨g, j, none⟩ = false := by
  obtain ⟨_, cs, hb, _⟩ := h.2.2.2 _ ha
  exact hb.frozen j
/-- A piece from k on. -/
theorem Sl.from_ (h : Sl E w A c l) {k : Nat} (hk : k ≤ l.length) : Sl E w (if c = k then A else A.map (·.add (k * E.size))) (c - k) (l.drop k) := by
  refine ⟨by have := h.1; simp; omega, by have := h.2.1; omega, fun ha => ?_, fun ad ha => ?_⟩
  · by_cases hck : c = k
    · omega
    · rw [if_neg hck] at ha
      cases A with
      | none => have := h.2.2.1 rfl; omega
      | some ad => cases ha
  · by_cases hck : c = k
    · subst hck
      rw [if_pos rfl] at ha
      obtain ⟨h1, cs, hb, h2, h3⟩ := h.2.2.2 ad ha
      have hz : l.length = c := by have := h.1; omega
      refine ⟨h1, cs, hb, by simp; omega, ?_⟩
      rw [List.drop_of_length_le (by omega)]
      simp [El.all]
    · rw [if_neg hck] at ha
      cases A with
      | none => cases ha
      | some ad0 =>
        obtain ⟨h1, cs, hb, h2, h3⟩ := h.2.2.2 ad0 rfl
        simp only [Option.map_some, Option.some.injEq] at ha
        subst ha
        obtain ⟨g, o, sp⟩ := ad0
        obtain rfl : sp = none := h1
        rw [Addr.add_lit]
        refine ⟨rfl, cs, hb, ?_, ?_⟩
        · simp only at h2 ⊢
          have : (c - k) * E.size + k * E.size = c * E.size := by rw [← Nat.add_mul]; congr 1; have := h.1; omega
          omega
        · rw [← E.all_drop, ← h3]
          simp only [List.drop_take, List.drop_drop, List.length_drop]
          rw [Nat.sub_mul]
/-- A literal that has just been laid. -/
theorem Sl.lit (E : El α) (w : World) (g : Nat) (hg : w.heap.size = g) (cs : Array Value) (l : List α) (hl : cs.toList = E.all l) (n : Nat) (hn : n = l.length) (hm : n ≤ maxLen) :
    Sl E (w.alloc (.cells cs E.e)) (some ⟨g, 0, none⟩) n l := by
  subst hn
  refine ⟨Nat.le_refl _, hm, fun h => by (cases h), fun ad ha => ?_⟩
  injection ha with ha
  subst ha
  refine ⟨rfl, E.all l, ?_, by simp [El.all_len], ?_⟩
  · rw [← hg, ← hl]
    simpa using Blk.new w E.e cs.toList
  · rw [List.drop_zero, ← El.all_len, List.take_length]
end

/-- The slice '.slice A l.length c' reads as the list l (of its block nothing more is known). -/
def Rd {α : Type} (E : El α) (w : World) (A : Option Addr) (c : Nat) (l : List α) : Prop :=
  l.length ≤ c ∧ c ≤ maxLen ∧ (A = none → c = 0) ∧ ∀ ad, A = some ad → ∀ j u, (E.all l)[j]? = some u → w.cell? (ad.add j) = some u

section
variable {α : Type} {E : El α} {w w' : World} {A : Option Addr} {c : Nat} {l : List α}
theorem Sl.rd (h : Sl E w A c l) : Rd E w A c l := ⟨h.1, h.2.1, h.2.2.1, fun ad ha => h.cells ad ha⟩
theorem Rd.nil (E : El α) (w : World) : Rd E w none 0 [] := (Sl.nil E w).rd
theorem Rd.at_ (h : Rd E w A c l) (k : Nat) (hk : k < l.length) : ∃ g o, A = some ⟨g, o, none⟩ ∧ g < w.heap.size ∧ ∀ f u, (E.enc l[k])[f]? = some u → w.cell? ⟨g, o + (k * E.size + f), none⟩ = some u := by
  cases A with
  | none => have := h.2.2.1 rfl; have := h.1; omega
  | some ad =>
    have hc := h.2.2.2 ad rfl
    have hall := E.all_len l
    have hpos : 0 < (E.all l).length := by rw [hall]; exact Nat.mul_pos (by omega) E.pos
    have h0 := hc 0 _ (List.getElem?_eq_getElem hpos)
    obtain ⟨g, o, sp⟩ := ad
    have hsp : sp = none := by simpa [Addr.add] using World.cell?_spot h0
    subst hsp
    rw [Addr.add_lit] at h0
    refine ⟨g, o, rfl, World.block_lt_of_cell? w _ h0, fun f u hu => ?_⟩
    have := hc (k * E.size + f) u (by
      have h1 : (E.all l).drop (k * E.size) = E.all (l.drop k) := E.all_drop l k
      have h2 : (E.all l)[k * E.size + f]? = (E.all (l.drop k))[f]? := by rw [← h1, List.getElem?_drop]
      rw [h2, List.drop_eq_getElem_cons hk, E.all_cons, List.getElem?_append_left (List.getElem?_eq_some_iff.1 hu).1]
      exact hu)
    rw [Addr.add_lit] at this
    exact this
theorem Rd.keep (h : Rd E w A c l) (hk : ∀ ad, A = some ad → ∀ j u, (E.all l)[j]? = some u → w'.cell? (ad.add j) = w.cell? (ad.add j)) : Rd E w' A c l :=
  ⟨h.1, h.2.1, h.2.2.1, fun ad ha j u hu => (hk ad ha j u hu).trans (h.2.2.2 ad ha j u hu)⟩
theorem Rd.lt (h : Rd E w A c l) (hl : 0 < l.length) : ∀ ad, A = some ad → ad.block < w.heap.size := fun ad ha => by
  obtain ⟨g, o, hA, hg, _⟩ := h.at_ 0 hl
  rw [ha] at hA
  injection hA with hA
  subst hA
  exact hg
theorem block_of_add (a : Addr) (n : Nat) : (a.add n).block = a.block := by unfold Addr.add; split <;> rfl
theorem Rd.touch {S : Nat → Prop} (h : Rd E w A c l) (ht : Touch S w w') (hs : ∀ ad, A = some ad → 0 < l.length → ¬ S ad.block) : Rd E w' A c l := by
  refine h.keep fun ad ha j u hu => ?_
  have hpos : 0 < l.length := by
    cases l with
    | nil => simp [El.all] at hu
    | cons a l => simp
  refine World.cell?_of_block ?_
  rw [block_of_add]
  exact ht.block _ (h.lt hpos ad ha) (hs ad ha hpos)
theorem Rd.alloc (h : Rd E w A c l) (o : Obj) : Rd E (w.alloc o) A c l := h.touch ((Touch.refl (fun _ => False) w).alloc o) (fun _ _ _ h => h)
end

section
variable {α : Type} (E : El α) {P : Program} {w : World}
theorem Rd.first {A : Option Addr} {c : Nat} {l : List α} (h : Rd E w A c l) (w1 : World) (hw : w1.heap = w.heap) : (Builtin.firstCells E.size l.length (.slice A l.length c)).run P w1 = .ok (E.all l).toArray w1 := by
  cases A with
  | none =>
    have h0 := h.2.2.1 rfl
    have : l = [] := List.eq_nil_of_length_eq_zero (by have := h.1; omega)
    subst this
    simp [Builtin.firstCells, El.all]
  | some ad =>
    refine run_firstCells_some w1 E.size l.length ad l.length c (E.all l) (E.all_len l) (fun j u hj => ?_)
    rw [← h.2.2.2 ad rfl j u hj]
    exact World.cell?_of_block (by rw [hw])

/-- append: whichever way it goes. -/
theorem run_app (T ty : TypeId) (i : TypeInfo) (hT : P.underlying T = some (.slice E.e)) (hi : P.info? E.e = some i) (hz : i.zero = some E.zero) (hs : i.size = E.size) (hb : i.bytes = E.bytes)
    {A A2 : Option Addr} {c c2 : Nat} {l l2 : List α} (h : Sl E w A c l) (h2 : Rd E w A2 c2 l2) (hm : l.length + l2.length ≤ maxLen) (hby : (l.length + l2.length) * E.bytes ≤ 140737488355328) :
    ∃ A' c' w', (Builtin.append_ #[T, T] ty #[.slice A l.length c, .slice A2 l2.length c2]).run P w = .ok (.slice A' (l ++ l2).length c') w' ∧ Sl E w' A' c' (l ++ l2) ∧
      Touch (fun k => A.map Addr.block = some k) w w' ∧ (A'.map Addr.block = A.map Addr.block ∨ A'.map Addr.block = some w.heap.size) := by
  have hsmall : l.length + l2.length ≤ 9223372036854775807 := by simp only [maxLen] at hm; omega
  by_cases hr : l.length + l2.length ≤ c
  · cases A with
    | none =>
      have h0 := h.2.2.1 rfl
      subst h0
      have e1 : l = [] := List.eq_nil_of_length_eq_zero (by omega)
      have e2 : l2 = [] := List.eq_nil_of_length_eq_zero (by omega)
      subst e1 e2
      have hf := h2.first (P := P) E w rfl
      simp only [El.all, List.flatMap_nil, List.length_nil] at hf
      refine ⟨none, 0, w, ?_, by simpa using h, Touch.refl _ _, .inl rfl⟩
      simp [Builtin.append_, run_underlying hT, sizeOf, typeInfo, hi, Builtin.lenOf, hs, hf]
    | some ad =>
      obtain ⟨hsp, cs, hblk, hfit, he⟩ := h.2.2.2 ad rfl
      obtain ⟨g, o, sp⟩ := ad
      obtain rfl : sp = none := hsp
      simp only at hblk hfit he
      have hf := h2.first (P := P) E w rfl
      have hlen : (l.length + l2.length) * E.size ≤ c * E.size := Nat.mul_le_mul_right _ hr
      rw [Nat.add_mul] at hlen
      have hst := run_storeCells_at P g (o + l.length * E.size) E.e (E.all l2) 0 cs.toArray w hblk (by rw [E.all_len]; simp; omega) (E.all_one l2)
      simp only [Nat.add_zero] at hst
      have hrun : (Builtin.append_ #[T, T] ty #[.slice (some ⟨g, o, none⟩) l.length c, .slice A2 l2.length c2]).run P w = .ok (.slice (some ⟨g, o, none⟩) (l ++ l2).length c)
          (w.setRow g (cs.take (o + l.length * E.size) ++ E.all l2 ++ cs.drop (o + l.length * E.size + (E.all l2).length)).toArray) := by
        simp [Builtin.append_, run_underlying hT, sizeOf, typeInfo, hi, Builtin.lenOf, hs, hf, hr, Addr.add_lit, hst, List.length_append]
      refine ⟨_, _, _, hrun, ⟨by simp; omega, h.2.1, fun h => by (cases h), fun ad ha => ?_⟩, ⟨rfl, rfl, rfl, by simp, fun k _ hk => setRow_other w g k _ (fun e => hk (by simp [e]))⟩, .inl rfl⟩
      injection ha with ha
      subst ha
      refine ⟨rfl, _, setRow_heap w g cs.toArray _ E.e _ hblk, ?_, ?_⟩
      · simp only [List.length_append, List.length_take, List.length_drop, E.all_len]
        omega
      · have e0 : (cs.take (o + l.length * E.size) ++ E.all l2 ++ cs.drop (o + l.length * E.size + (E.all l2).length)).drop o = E.all l ++ E.all l2 ++ cs.drop (o + l.length * E.size + (E.all l2).length) := by
          rw [List.append_assoc, List.drop_append_of_le_length (by simp; omega), List.drop_take]
          have : o + l.length * E.size - o = l.length * E.size := by omega
          rw [this, he, List.append_assoc]
        simp only at e0 ⊢
        rw [e0, E.all_append, List.take_left' (by rw [← E.all_append, E.all_len])]
  · have hn : ¬ (l.length + l2.length ≤ c) := hr
    have hf := h2.first (P := P) E w.drew rfl
    have hfo := h.rd.first (P := P) E w.drew rfl
    have h63' : ¬ (9223372036854775807 < ((l.length : Int) + (l2.length : Int))) := by omega
    have hfit : Builtin.nextslicecap (l.length + l2.length) c * E.bytes ≤ 281474976710656 := growslice_fits (by omega) hby
    have h48' : ¬ (281474976710656 < Builtin.nextslicecap (l.length + l2.length) c * E.bytes) := by omega
    have hge := grownCap_ge w (l.length + l2.length) c E.e
    have hcm := grownCap_le_maxLen w (l.length + l2.length) c E.e hm
    have hrun : (Builtin.append_ #[T, T] ty #[.slice A l.length c, .slice A2 l2.length c2]).run P w =
        .ok (.slice (some ⟨w.heap.size, 0, none⟩) (l ++ l2).length (grownCap w (l.length + l2.length) c E.e))
          (w.drew.alloc (.cells ((E.all l).toArray ++ (E.all l2).toArray ++ Builtin.zeroCells E.zero.cells (grownCap w (l.length + l2.length) c E.e - (l.length + l2.length))) E.e)) := by
      simp [Builtin.append_, run_underlying hT, sizeOf, typeInfo, zeroValue, hi, hz, hs, hb, Builtin.lenOf, hn, h63', h48', Question.forced, hf, hfo, newRow, grownCap]
      rw [← Array.append_assoc]
      simp
    refine ⟨_, _, _, hrun, ⟨by simp; omega, hcm, fun h => by (cases h), fun ad ha => ?_⟩, ⟨rfl, rfl, rfl, by simp, fun k hk _ => Below.heap_alloc w.drew _ k hk⟩, .inr rfl⟩
    injection ha with ha
    subst ha
    refine ⟨rfl, E.all l ++ E.all l2 ++ (Builtin.zeroCells E.zero.cells (grownCap w (l.length + l2.length) c E.e - (l.length + l2.length))).toList, ?_, ?_, ?_⟩
    · have := Blk.new w.drew E.e (E.all l ++ E.all l2 ++ (Builtin.zeroCells E.zero.cells (grownCap w (l.length + l2.length) c E.e - (l.length + l2.length))).toList)
      have e0 : ∀ (a b : List Value) (z : Array Value), (a ++ b ++ z.toList).toArray = a.toArray ++ b.toArray ++ z := by intro a b z; simp [← Array.append_assoc, ← List.append_toArray]
      rw [e0] at this
      exact this
    · simp only [List.length_append, E.all_len, Array.length_toList, size_zeroCells, E.zsize, Nat.zero_add]
      rw [← Nat.add_mul, ← Nat.add_mul]
      exact Nat.mul_le_mul_right _ (by omega)
    · rw [List.drop_zero, E.all_append, List.take_left' (by rw [← E.all_append, E.all_len])]

theorem wp_app {o : Oper} {a : Act} {K : Act → World → Prop} {Q : Exit → Act → World → Prop} {s x : Operand} {T : TypeId}
    (ho : o.op = .call { callee := .builtin .append, args := #[s, x], argTypes := #[T, T] })
    (i : TypeInfo) (hT : P.underlying T = some (.slice E.e)) (hi : P.info? E.e = some i) (hz : i.zero = some E.zero) (hs : i.size = E.size) (hb : i.bytes = E.bytes)
    {A A2 : Option Addr} {c c2 : Nat} {l l2 : List α} (es : a.eval s = .slice A l.length c) (ex : a.eval x = .slice A2 l2.length c2)
    (h : Sl E w A c l) (h2 : Rd E w A2 c2 l2) (hm : l.length + l2.length ≤ maxLen) (hby : (l.length + l2.length) * E.bytes ≤ 140737488355328)
    (hK : ∀ A' c' L w', Hid (L = l ++ l2) → Sl E w' A' c' L → Touch (fun k => A.map Addr.block = some k) w w' → (A'.map Addr.block = A.map Addr.block ∨ A'.map Addr.block = some w.heap.size) →
      K (a.put o.dst (.slice A' L.length c')) w') : o.wp P a w K Q := by
  obtain ⟨A', c', w', hr, h3, h4, h5⟩ := run_app E (P := P) T o.type i hT hi hz hs hb h h2 hm hby
  unfold Oper.wp execOp
  simp only [ho, resolve, invoke, builtin, Sem.run_bind, Sem.run_pure, Result.andThen_ok, List.map_toArray, List.map_cons, List.map_nil, es, ex, hr]
  exact hK A' c' (l ++ l2) w' rfl h3 h4 h5

theorem wpList_app {ops : Array Oper} {rest : List Oper} {o : Oper} {a : Act} {Q : Exit → Act → World → Prop} (hgd : o.guard = none) {s x : Operand} {T : TypeId}
    (ho : o.op = .call { callee := .builtin .append, args := #[s, x], argTypes := #[T, T] })
    (i : TypeInfo) (hT : P.underlying T = some (.slice E.e)) (hi : P.info? E.e = some i) (hz : i.zero = some E.zero) (hs : i.size = E.size) (hb : i.bytes = E.bytes)
    {A A2 : Option Addr} {c c2 : Nat} {l l2 : List α} (es : a.eval s = .slice A l.length c) (ex : a.eval x = .slice A2 l2.length c2)
    (h : Sl E w A c l) (h2 : Rd E w A2 c2 l2) (hm : l.length + l2.length ≤ maxLen) (hby : (l.length + l2.length) * E.bytes ≤ 140737488355328)
    (hK : ∀ A' c' L w', Hid (L = l ++ l2) → Sl E w' A' c' L → Touch (fun k => A.map Addr.block = some k) w w' → (A'.map Addr.block = A.map Addr.block ∨ A'.map Addr.block = some w.heap.size) →
      wpList P ops Q rest (a.put o.dst (.slice A' L.length c')) w') : wpList P ops Q (o :: rest) a w :=
  wpList_plain hgd fun _ hk => wp_app E ho i hT hi hz hs hb es ex h h2 hm hby fun A' c' L w' a1 a2 a3 a4 => hk _ _ (hK A' c' L w' a1 a2 a3 a4)
end

theorem step_app {α : Type} (E : El α) {P : Program} {w : World} {ops : Array Oper} {o : Oper} {a : Act} {K : Act → World → Prop} {Q : Exit → Act → World → Prop} {F : Prop} (hgd : o.guard = none) {s x : Operand} {T : TypeId}
    (ho : o.op = .call { callee := .builtin .append, args := #[s, x], argTypes := #[T, T] })
    (i : TypeInfo) (hT : P.underlying T = some (.slice E.e)) (hi : P.info? E.e = some i) (hz : i.zero = some E.zero) (hs : i.size = E.size) (hb : i.bytes = E.bytes)
    {A A2 : Option Addr} {c c2 : Nat} {l l2 : List α} (es : a.eval s = .slice A l.length c) (ex : a.eval x = .slice A2 l2.length c2)
    (h : Sl E w A c l) (h2 : Rd E w A2 c2 l2) (hm : l.length + l2.length ≤ maxLen) (hby : (l.length + l2.length) * E.bytes ≤ 140737488355328)
    (hK : ∀ A' c' L w', Hid (L = l ++ l2) → Sl E w' A' c' L → Touch (fun k => A.map Addr.block = some k) w w' → (A'.map Addr.block = A.map Addr.block ∨ A'.map Addr.block = some w.heap.size) →
      K (a.put o.dst (.slice A' L.length c')) w') : if Region.wanted o (yielded ops a.tmps) = true then Oper.wp P o a w K Q else F := by
  have hw : Region.wanted o (yielded ops a.tmps) = true := by simp [Region.wanted, hgd]
  rw [if_pos hw]
  exact wp_app E ho i hT hi hz hs hb es ex h h2 hm hby hK

section
variable {α : Type} (E : El α) {P : Program} {w : World}
/-- A store into one element of one cell. -/
theorem Sl.set1 {E : El α} {A : Option Addr} {c : Nat} {l : List α} (h : Sl E w A c l) (h1 : E.size = 1) {g o : Nat} (hA : A = some ⟨g, o, none⟩) {i : Nat} {x : α} {u : Value} (hx : E.enc x = [u]) :
    Sl E (w.setCell ⟨g, o + i, none⟩ u) A c (l.set i x) := by
  refine ⟨by simpa using h.1, h.2.1, h.2.2.1, fun ad ha => ?_⟩
  obtain ⟨hs, cs, hb, hl, he⟩ := h.2.2.2 ad ha
  rw [hA] at ha
  injection ha with ha
  subst ha
  rw [h1, Nat.mul_one] at hl he
  simp only at hb hl he
  refine ⟨rfl, cs.set (o + i) u, hb.set _ _, by rw [h1]; simpa using hl, ?_⟩
  rw [h1, Nat.mul_one, List.length_set]
  have hset : ∀ (l : List α) (i : Nat), E.all (l.set i x) = (E.all l).set i u := by
    intro l
    induction l with
    | nil => intro i; simp [El.all]
    | cons b l ih =>
      intro i
      have hb1 : (E.enc b).length = 1 := by rw [E.len, h1]
      obtain ⟨v, hv⟩ := List.length_eq_one_iff.1 hb1
      cases i with
      | zero => rw [List.set_cons_zero, E.all_cons, E.all_cons, hx, hv]; rfl
      | succ i => rw [List.set_cons_succ, E.all_cons, E.all_cons, ih, hv]; rfl
  show List.take l.length (List.drop o (cs.set (o + i) u)) = _
  rw [hset, ← he, List.drop_set, if_neg (by omega), List.take_set, Nat.add_sub_cancel_left]
end

/-- The slice reads as L, in memory that was made behind W; what was there is as it was. -/
structure Mine {α : Type} (E : El α) (W w : World) (A : Option Addr) (c : Nat) (L : List α) : Prop where
  sl : Sl E w A c L
  fresh : Fresh W w
  base : ∀ ad, A = some ad → W.heap.size ≤ ad.block

section
variable {α : Type} {E : El α} {W w w' : World} {A A' : Option Addr} {c c' : Nat} {L L' : List α}
theorem Mine.nil (E : El α) (w : World) : Mine E w w none 0 [] := ⟨Sl.nil E w, Touch.refl _ w, fun _ e => nomatch e⟩
theorem Mine.alloc (h : Mine E W w A c L) (o : Obj) : Mine E W (w.alloc o) A c L := ⟨h.sl.alloc o, h.fresh.alloc o, h.base⟩
theorem Mine.old (h : Mine E W w A c L) (ht : Fresh w w') : Mine E W w' A c L := ⟨h.sl.touch ht (fun _ _ h => h), h.fresh.trans ht (fun _ _ h => h), h.base⟩
theorem Mine.app (h : Mine E W w A c L) (hs : Sl E w' A' c' L') (ht : Touch (fun k => A.map Addr.block = some k) w w') (hA : A'.map Addr.block = A.map Addr.block ∨ A'.map Addr.block = some w.heap.size) : Mine E W w' A' c' L' := by
  refine ⟨hs, h.fresh.trans ht (fun k hk e => ?_), fun ad e => ?_⟩
  · cases A with
    | none => cases e
    | some a0 => have := h.base a0 rfl; simp at e; omega
  · subst e
    rcases hA with e | e
    · cases A with
      | none => cases e
      | some a0 => have := h.base a0 rfl; simp at e; omega
    · have := h.fresh.size; simp at e; omega
theorem Mine.lit (E : El α) (w : World) (cs : Array Value) (l : List α) (hl : cs.toList = E.all l) (n : Nat) (hn : n = l.length) (hm : n ≤ maxLen) : Mine E w (w.alloc (.cells cs E.e)) (some ⟨w.heap.size, 0, none⟩) n l :=
  ⟨Sl.lit E w _ rfl cs l hl n hn hm, (Touch.refl _ w).alloc _, fun ad e => by injection e with e; subst e; exact Nat.le_refl _⟩
theorem Mine.own {S : Nat → Prop} (h : Mine E W w A c L) (ht : Touch S w w') (hS : ∀ k, S k → W.heap.size ≤ k) (hA : ∀ ad, A = some ad → ¬ S ad.block) : Mine E W w' A c L :=
  ⟨h.sl.touch ht hA, h.fresh.trans ht (fun k hk hs => by have := hS k hs; omega), h.base⟩
end

/-- What a call leaves: the parts may lie in new memory. -/
def Grown (F : Nat → Prop) (w : World) (x : Nat) : Prop := F x ∨ w.heap.size ≤ x

/-- Where a key stands. -/
def fnd {κ : Type} [DecidableEq κ] (a : κ) : List κ → List Value → Nat → Option (Nat × Value)
  | k :: ks, v :: vs, i => if a = k then some (i, v) else fnd a ks vs (i + 1)
  | _, _, _ => none

/-- How keys of a type are written and compared. -/
structure KT (P : Program) (κ : Type) [DecidableEq κ] where
  t : TypeId
  enc : κ → Value
  inj : ∀ a b, enc a = enc b → a = b
  check : ∀ e a w, (Instr.checkKey e 10000 t (enc a)).run P w = .ok () w
  find : ∀ (a : κ) (l : List MapEntry) (ks : List κ) (w : World), l.map (·.key) = ks.map enc → (Instr.findKey t (enc a) l).run P w = .ok (fnd a ks (l.map (·.val)) 0) w
  bits : ∀ a, Instr.sameBits 10000 (enc a) (enc a) = true

section
variable {κ : Type} [DecidableEq κ]

abbrev MList (κ : Type) := List (κ × Value)
variable {β : Type}
def mget (m : List (κ × β)) (k : κ) : Option β := (m.find? fun p => decide (p.1 = k)).map (·.2)
def mset (m : List (κ × β)) (k : κ) (v : β) : List (κ × β) := if k ∈ m.map (·.1) then m.map (fun p => if p.1 = k then (k, v) else p) else m ++ [(k, v)]
def mdel (m : List (κ × β)) (k : κ) : List (κ × β) := m.filter fun p => decide (p.1 ≠ k)

theorem mget_cons (p : κ × β) (m : List (κ × β)) (k : κ) : mget (p :: m) k = if p.1 = k then some p.2 else mget m k := by
  unfold mget
  by_cases h : p.1 = k <;> simp [h]
theorem keys_mset (m : List (κ × β)) (k : κ) (v : β) : (mset m k v).map (·.1) = if k ∈ m.map (·.1) then m.map (·.1) else m.map (·.1) ++ [k] := by
  unfold mset
  by_cases h : k ∈ m.map (·.1)
  · rw [if_pos h, if_pos h, List.map_map]
    refine List.map_congr_left fun p _ => ?_
    by_cases hp : p.1 = k <;> simp [hp]
  · rw [if_neg h, if_neg h]; simp
theorem nodup_mset {m : List (κ × β)} (h : (m.map (·.1)).Nodup) (k : κ) (v : β) : ((mset m k v).map (·.1)).Nodup := by
  rw [keys_mset]
  split
  · exact h
  · rename_i hk
    exact List.nodup_append.2 ⟨h, by simp, fun a ha b hb => by simp at hb; subst hb; exact fun e => hk (e ▸ ha)⟩
theorem mget_lift {γ : Type} (f : β → γ) (m : List (κ × β)) (k : κ) : mget (m.map fun p => (p.1, f p.2)) k = (mget m k).map f := by
  induction m with
  | nil => rfl
  | cons p m ih =>
    rw [List.map_cons, mget_cons, mget_cons, ih]
    by_cases h : p.1 = k <;> simp [h]
theorem mset_lift {γ : Type} (f : β → γ) (m : List (κ × β)) (k : κ) (v : β) : mset (m.map fun p => (p.1, f p.2)) k (f v) = (mset m k v).map fun p => (p.1, f p.2) := by
  unfold mset
  have e : (m.map fun p => (p.1, f p.2)).map (·.1) = m.map (·.1) := by rw [List.map_map]; rfl
  rw [e]
  by_cases h : k ∈ m.map (·.1)
  · rw [if_pos h, if_pos h, List.map_map, List.map_map]
    refine List.map_congr_left fun p _ => ?_
    by_cases hp : p.1 = k <;> simp [hp]
  · rw [if_neg h, if_neg h]; simp
theorem fnd_spec (a : κ) : ∀ (ks : List κ) (vs : List Value) (i : Nat), ks.length = vs.length →
    (fnd a ks vs i = none ∧ a ∉ ks) ∨ ∃ j, ∃ (h1 : j < ks.length) (h2 : j < vs.length), fnd a ks vs i = some (i + j, vs[j]) ∧ ks[j] = a ∧ ∀ q, (hq : q < j) → ks[q]'(by omega) ≠ a
  | [], vs, i, _ => .inl ⟨by cases vs <;> rfl, by simp⟩
  | k :: ks, [], i, h => by simp at h
  | k :: ks, v :: vs, i, h => by
    by_cases hk : a = k
    · subst hk
      exact .inr ⟨0, by simp, by simp, by simp [fnd], rfl, fun q hq => by omega⟩
    · rcases fnd_spec a ks vs (i + 1) (by simpa using h) with ⟨h1, h2⟩ | ⟨j, h1, h2, h3, h4, h5⟩
      · exact .inl ⟨by simp [fnd, hk, h1], by simp [hk, h2]⟩
      · refine .inr ⟨j + 1, by simp; omega, by simp; omega, by simp [fnd, hk, h3]; omega, by simpa using h4, fun q hq => ?_⟩
        cases q with
        | zero => exact fun e => hk e.symm
        | succ q => exact h5 q (by omega)

/-- The map's block b holds just the entries of m, in this order. -/
def MapAt {P : Program} (K : KT P κ) (w : World) (b : Nat) (m : MList κ) : Prop :=
  (m.map (·.1)).Nodup ∧ ∃ es clock, w.heap[b]? = some (.map es clock) ∧ es.toList.map (·.key) = (m.map (·.1)).map K.enc ∧ es.toList.map (·.val) = m.map (·.2) ∧ MapKept.Stamped es clock

variable {P : Program} {K : KT P κ} {w w' : World} {b : Nat} {m : MList κ}
theorem MapAt.lt (h : MapAt K w b m) : b < w.heap.size := by
  obtain ⟨_, es, cl, hb, _⟩ := h
  exact (Array.getElem?_eq_some_iff.1 hb).1
theorem MapAt.keep (h : MapAt K w b m) (hk : w'.heap[b]? = w.heap[b]?) : MapAt K w' b m := by
  obtain ⟨hn, es, cl, hb, r⟩ := h
  exact ⟨hn, es, cl, hk.trans hb, r⟩
theorem MapAt.touch {S : Nat → Prop} (h : MapAt K w b m) (ht : Touch S w w') (hs : ¬ S b) : MapAt K w' b m := h.keep (ht.block b h.lt hs)
theorem MapAt.alloc (h : MapAt K w b m) (o : Obj) : MapAt K (w.alloc o) b m := h.keep (Below.heap_alloc w o b h.lt)
theorem MapAt.setCell (h : MapAt K w b m) {p : Addr} (hp : b ≠ p.block) (u : Value) : MapAt K (w.setCell p u) b m := h.keep (Below.heap_setCell w p u b hp)
theorem MapAt.made (K : KT P κ) (w : World) : MapAt K (w.alloc (.map #[] 0)) w.heap.size ([] : MList κ) :=
  ⟨by simp, #[], 0, heap_alloc_new w _, by simp, by simp, MapKept.stamped_empty 0⟩
theorem MapAt.blk_ne {g : Nat} {t : TypeId} {cs : List Value} (h : MapAt K w b m) (hb : Blk w g t cs) : b ≠ g := by
  rintro rfl
  obtain ⟨_, es, cl, hb', _⟩ := h
  unfold Blk at hb
  rw [hb] at hb'
  cases hb'
theorem mlen (h : MapAt K w b m) : ∃ es cl, w.heap[b]? = some (.map es cl) ∧ es.size = m.length := by
  obtain ⟨_, es, cl, hb, hk, _⟩ := h
  refine ⟨es, cl, hb, ?_⟩
  have := congrArg List.length hk
  simpa using this

theorem fnd_mget (m : MList κ) (k : κ) (i : Nat) : (fnd k (m.map (·.1)) (m.map (·.2)) i).map (·.2) = mget m k := by
  induction m generalizing i with
  | nil => rfl
  | cons p m ih =>
    rw [mget_cons]
    simp only [List.map_cons, fnd]
    by_cases h : k = p.1
    · simp [h]
    · simp [h, Ne.symm h, ih]

/-- 'm[k]' and 'v, ok := m[k]'. -/
theorem MapAt.look {T e : TypeId} (h : MapAt K w b m) (hT : P.underlying T = some (.map K.t e)) {z : Value} (hz : (zeroValue e).run P w = .ok z w) (k : κ) (ok : Bool) :
    (Instr.lookup T (.map (some b)) (K.enc k) ok).run P w = .ok (if ok then .tuple #[(mget m k).getD z, .bool (mget m k).isSome] else (mget m k).getD z) w := by
  obtain ⟨_, es, cl, hb, hk, hv, _⟩ := h
  have hfind := K.find k es.toList _ w hk
  rw [hv] at hfind
  have hfm := fnd_mget m k 0
  have hg := MapKept.run_getObj_map (P := P) hb
  simp only [Instr.lookup, Sem.run_bind, run_underlying hT, Result.andThen_ok, hg, K.check, hfind, Sem.run_pure]
  cases hc : fnd k (m.map (·.1)) (m.map (·.2)) 0 with
  | none =>
    rw [hc] at hfm
    rw [← hfm]
    cases ok <;> simp [hz]
  | some x =>
    rw [hc] at hfm
    rw [← hfm]
    cases ok <;> simp

/-- 'm[k] = v'. -/
theorem MapAt.store {T e : TypeId} (h : MapAt K w b m) (hT : P.underlying T = some (.map K.t e)) (k : κ) (v : Value) :
    ∃ w', (Instr.mapUpdate T (.map (some b)) (K.enc k) v).run P w = .ok () w' ∧ MapAt K w' b (mset m k v) ∧ Touch (· = b) w w' := by
  have h0 := h
  obtain ⟨hn, es, cl, hb, hk, hv, hst⟩ := h
  have hfind := K.find k es.toList _ w hk
  rw [hv] at hfind
  have hg := MapKept.run_getObj_map (P := P) hb
  have htouch : ∀ o, Touch (· = b) w { w with heap := w.heap.setIfInBounds b o } := fun o =>
    ⟨rfl, rfl, rfl, by simp, fun j hj hne => (MapKept.heap_set hb (o' := o)).2 j hne⟩
  have hlen : es.toList.length = m.length := by have := congrArg List.length hk; simpa using this
  rcases fnd_spec k (m.map (·.1)) (m.map (·.2)) 0 (by simp) with ⟨h1, h2⟩ | ⟨j, h1, h2, h3, h4, h5⟩
  · rw [h1] at hfind
    have hkeys : ∀ x ∈ es.toList, x.key ≠ K.enc k := by
      intro x hx e
      have : K.enc k ∈ es.toList.map (·.key) := e ▸ List.mem_map_of_mem hx
      rw [hk] at this
      obtain ⟨k', hk', e'⟩ := List.mem_map.1 this
      exact h2 (K.inj _ _ e' ▸ hk')
    refine ⟨_, ?_, ⟨nodup_mset hn k v, es.push { key := K.enc k, val := v, born := cl }, cl + 1, (MapKept.heap_set hb).1, ?_, ?_, MapKept.stamped_push hst hkeys⟩, htouch _⟩
    · simp only [Instr.mapUpdate, Sem.run_bind, run_underlying hT, Result.andThen_ok, hg, K.check, hfind]
      exact MapKept.run_setObj_map _ hb
    · unfold mset; rw [if_neg h2]; simp [hk]
    · unfold mset; rw [if_neg h2]; simp [hv]
  · rw [h3] at hfind
    have hj : j < es.toList.length := by rw [hlen]; simpa using h1
    have hj' : j < es.size := by simpa using hj
    have hkj : es[j].key = K.enc k := by
      have : (es.toList.map (·.key))[j]? = ((m.map (·.1)).map K.enc)[j]? := by rw [hk]
      rw [List.getElem?_map, List.getElem?_map, List.getElem?_eq_getElem hj, List.getElem?_eq_getElem h1] at this
      simpa [h4] using this
    have hmem : k ∈ m.map (·.1) := h4 ▸ List.getElem_mem h1
    have hstay : (Instr.keyThatStays (((es[j]?).map (·.key)).getD (K.enc k)) (K.enc k)).run P w = .ok (K.enc k) w := by
      rw [Array.getElem?_eq_getElem hj']
      simp [Instr.keyThatStays, hkj, K.bits]
    have hmod : ∀ (q : Nat) (hq : q < es.size), (es.modify j fun e => { e with key := K.enc k, val := v })[q]'(by simpa using hq) = if q = j then { es[q] with key := K.enc k, val := v } else es[q] := by
      intro q hq
      rw [Array.getElem_modify]
      by_cases e : j = q <;> simp [e, eq_comm]
    have hnd : ∀ (q : Nat) (hq : q < m.length), m[q].1 = k ↔ q = j := by
      intro q hq
      have hj1 : m[j].1 = k := by simpa using h4
      constructor
      · intro e
        have hpw := List.pairwise_iff_getElem.1 hn
        rcases Nat.lt_trichotomy q j with hlt | heq | hgt
        · exact absurd (by rw [h4, List.getElem_map]; exact e) (hpw q j (by simpa using hq) h1 hlt)
        · exact heq
        · exact absurd (by rw [h4, List.getElem_map]; exact e.symm) (hpw j q h1 (by simpa using hq) hgt)
      · rintro rfl; exact hj1
    refine ⟨_, ?_, ⟨nodup_mset hn k v, es.modify j fun e => { e with key := K.enc k, val := v }, cl, (MapKept.heap_set hb).1, ?_, ?_, ?_⟩, htouch _⟩
    · simp only [Instr.mapUpdate, Sem.run_bind, run_underlying hT, Result.andThen_ok, hg, K.check, hfind, Nat.zero_add, hstay]
      exact MapKept.run_setObj_map _ hb
    · rw [keys_mset, if_pos hmem, ← hk]
      exact MapKept.modify_keys j _ (fun e he => by rw [Array.getElem?_eq_getElem hj'] at he; injection he with he; subst he; exact hkj.symm)
    · unfold mset
      rw [if_pos hmem]
      apply List.ext_getElem
      · simp; simpa using hlen
      · intro q hq1 hq2
        have hqs : q < es.size := by simpa using hq1
        have hqm : q < m.length := by simpa using hq2
        have hvq : es[q].val = m[q].2 := by
          have : (es.toList.map (·.val))[q]? = (m.map (·.2))[q]? := by rw [hv]
          simpa [List.getElem?_map, hqs, hqm] using this
        simp only [List.getElem_map, Array.getElem_toList]
        rw [hmod q hqs]
        by_cases e : q = j
        · subst e
          have := (hnd q hqm).2 rfl
          simp [this]
        · have : ¬ m[q].1 = k := fun h => e ((hnd q hqm).1 h)
          simp [e, this, hvq]
    · refine MapKept.stamped_modify hst j _ (fun _ _ => rfl) (fun e _ he => ?_)
      rw [Array.getElem?_eq_getElem hj'] at he
      injection he with he
      subst he
      exact hkj.symm
end

/-- Keys that are integers of one kind. -/
def KT.int {P : Program} (t : TypeId) (k : IntKind) (hu : P.underlying t = some (.int k)) : KT P Int where
  t := t
  enc := fun n => .int k n
  inj := fun a b e => by injection e
  check := fun e a w => MapKept.run_checkKey hu (by simp [MapKept.IsKey]) e 9999
  find := by
    intro a l ks w hl
    refine MapKept.run_findKey hu ?_
    have hgen : ∀ (l : List MapEntry) (ks : List Int) (i : Nat), l.map (·.key) = ks.map (fun n => Value.int k n) → Instr.findNow (.int k) (.int k a) l i = some (fnd a ks (l.map (·.val)) i) := by
      intro l
      induction l with
      | nil => intro ks i h; cases ks with
        | nil => rfl
        | cons k ks => simp at h
      | cons e l ih => intro ks i h; cases ks with
        | nil => simp at h
        | cons k0 ks =>
          simp only [List.map_cons, List.cons.injEq] at h
          simp only [Instr.findNow, h.1, Instr.sameNow, if_true, List.map_cons, fnd]
          by_cases e0 : a = k0
          · simp [e0]
          · have : (a == k0) = false := by simpa using e0
            simp only [this, e0, if_false]
            exact ih ks (i + 1) h.2
    exact hgen l ks 0 hl
  bits := fun a => by simp [Instr.sameBits]

section
variable {κ : Type} [DecidableEq κ] {P : Program} {K : KT P κ}
theorem wpList_lookM {ops : Array Oper} {rest : List Oper} {o : Oper} {a : Act} {w : World} {Q : Exit → Act → World → Prop} (hg : o.guard = none) {x y : Operand} {T e : TypeId} {ok : Bool} (hop : o.op = Op.lookup T x y ok)
    {b : Nat} {m : MList κ} {k : κ} (ex : a.eval x = .map (some b)) (ey : a.eval y = K.enc k) (h : MapAt K w b m) (hT : P.underlying T = some (.map K.t e)) {z : Value} (hz : (zeroValue e).run P w = .ok z w)
    (hK : wpList P ops Q rest (a.put o.dst (if ok then .tuple #[(mget m k).getD z, .bool (mget m k).isSome] else (mget m k).getD z)) w) : wpList P ops Q (o :: rest) a w := by
  refine wpList_plain hg fun _ hk => ?_
  unfold Oper.wp
  simp only [execOp, hop, ex, ey, Sem.run_bind, Result.andThen_ok, h.look hT hz k ok, Sem.run_pure]
  exact hk _ _ hK
theorem wpList_storeM {ops : Array Oper} {rest : List Oper} {o : Oper} {a : Act} {w : World} {Q : Exit → Act → World → Prop} (hg : o.guard = none) {x y v : Operand} {T e : TypeId} (hop : o.op = Op.mapUpdate T x y v)
    {b : Nat} {m : MList κ} {k : κ} (ex : a.eval x = .map (some b)) (ey : a.eval y = K.enc k) (h : MapAt K w b m) (hT : P.underlying T = some (.map K.t e))
    (hK : ∀ w', MapAt K w' b (mset m k (a.eval v)) → Touch (· = b) w w' → wpList P ops Q rest (a.put o.dst undef) w') : wpList P ops Q (o :: rest) a w := by
  refine wpList_plain hg fun _ hk => ?_
  obtain ⟨w', hr, h1, h2⟩ := h.store hT k (a.eval v)
  unfold Oper.wp
  simp only [execOp, hop, ex, ey, Sem.run_bind, Result.andThen_ok, hr, Sem.run_pure]
  exact hk _ _ (hK w' h1 h2)
end

section
variable {P : Program} {t e : TypeId} {k : IntKind} {i : TypeInfo}
def pairV (k : IntKind) (p : Int × Int) : Value := .agg #[.int k p.1, .int k p.2]

theorem run_isAgg_int (w : World) (he : P.underlying e = some (.int k)) : (isAgg e).run P w = .ok false w := by
  unfold isAgg
  rw [Sem.run_bind, run_underlying he w]
  rfl
theorem run_part_pair (w : World) (he : P.underlying e = some (.int k)) (xs : Array Value) (o : Nat) (v : Value) (h : xs[o]? = some v) : (part e xs o).run P w = .ok v w := by
  simp [part, run_isAgg_int w he, h]
theorem run_check_pair' (w : World) (n : Nat) (hu : P.underlying t = some (.array 2 e)) (he : P.underlying e = some (.int k)) (hi : P.info? e = some i) (hs : i.size = 1) (em : Bool) (p : Int × Int) :
    (Instr.checkKey em (n + 1 + 1) t (pairV k p)).run P w = .ok () w := by
  have h0 : ∀ x, (Instr.checkKey em (n + 1) e (.int k x)).run P w = .ok () w := fun x => MapKept.run_checkKey he (by simp [MapKept.IsKey]) em n
  have p0 : (part e #[.int k p.1, .int k p.2] 0).run P w = .ok (.int k p.1) w := run_part_pair w he _ _ _ rfl
  have p1 : (part e #[.int k p.1, .int k p.2] 1).run P w = .ok (.int k p.2) w := run_part_pair w he _ _ _ rfl
  have hsz : (sizeOf e).run P w = .ok 1 w := by simp [sizeOf, typeInfo, hi, hs]
  unfold pairV
  generalize n + 1 = m at *
  simp only [Instr.checkKey, Sem.run_bind, run_underlying hu, Result.andThen_ok]
  simp only [Std.Legacy.Range.forIn_eq_forIn_range', Std.Legacy.Range.size, Nat.sub_zero, Nat.add_one_sub_one, Nat.div_one, Nat.reduceAdd]
  rw [show List.range' 0 2 = [0, 1] from rfl]
  simp only [List.forIn_cons, List.forIn_nil, Sem.run_bind, hsz, Result.andThen_ok, Nat.zero_mul, Nat.one_mul, p0, p1, h0, Sem.run_pure]
theorem run_check_pair (w : World) (hu : P.underlying t = some (.array 2 e)) (he : P.underlying e = some (.int k)) (hi : P.info? e = some i) (hs : i.size = 1) (em : Bool) (p : Int × Int) :
    (Instr.checkKey em 10000 t (pairV k p)).run P w = .ok () w := run_check_pair' w 9998 hu he hi hs em p
theorem run_equal_pair' (w : World) (n : Nat) (hu : P.underlying t = some (.array 2 e)) (he : P.underlying e = some (.int k)) (hi : P.info? e = some i) (hs : i.size = 1) (p q : Int × Int) :
    (Op.equalIn (n + 1 + 1) t (pairV k p) (pairV k q)).run P w = .ok (decide (p = q)) w := by
  have hc : P.cellsOf e = 1 := by unfold Program.cellsOf; rw [hi]; simpa using hs
  have p0 : ∀ w x y, (part e #[.int k x, .int k y] 0).run P w = .ok (.int k x) w := fun w x y => run_part_pair w he _ _ _ rfl
  have p1 : ∀ w x y, (part e #[.int k x, .int k y] 1).run P w = .ok (.int k y) w := fun w x y => run_part_pair w he _ _ _ rfl
  have heq : ∀ a b w, (Op.equalIn (n + 1) e (.int k a) (.int k b)).run P w = .ok (a == b) w := fun a b w => run_equalIn_int w n e k k a b he
  unfold pairV
  rw [run_equalIn_array w (n + 1) _ _ hu hi, hc]
  rw [show List.range 2 = [0, 1] from rfl]
  simp only [Op.eqItems, Sem.run_bind, Nat.zero_mul, Nat.one_mul, p0, heq, Result.andThen_ok]
  obtain ⟨a, b⟩ := p
  obtain ⟨c, d⟩ := q
  by_cases h1 : a = c
  · subst h1
    by_cases h2 : b = d
    · subst h2; simp [p1, heq]
    · have e2 : (b == d) = false := by simpa using h2
      simp [p1, heq, e2, h2]
  · have e1 : (a == c) = false := by simpa using h1
    simp [e1, h1]
theorem run_equal_pair (w : World) (hu : P.underlying t = some (.array 2 e)) (he : P.underlying e = some (.int k)) (hi : P.info? e = some i) (hs : i.size = 1) (p q : Int × Int) :
    (Op.equal t (pairV k p) (pairV k q)).run P w = .ok (decide (p = q)) w := run_equal_pair' w 9998 hu he hi hs p q

/-- Keys that are arrays of two integers. -/
def KT.pair (t e : TypeId) (k : IntKind) (hu : P.underlying t = some (.array 2 e)) (he : P.underlying e = some (.int k)) (hi : ∃ i, P.info? e = some i ∧ i.size = 1) : KT P (Int × Int) where
  t := t
  enc := pairV k
  inj := fun a b h => by
    unfold pairV at h
    simp at h
    exact Prod.ext h.1 h.2
  check := fun em a w => by obtain ⟨i, hi, hs⟩ := hi; exact run_check_pair w hu he hi hs em a
  find := by
    intro a l ks w hl
    obtain ⟨i, hi, hs⟩ := hi
    have hgen : ∀ (l : List MapEntry) (ks : List (Int × Int)) (j : Nat), l.map (·.key) = ks.map (pairV k) → (Instr.findAsking t (pairV k a) l j).run P w = .ok (fnd a ks (l.map (·.val)) j) w := by
      intro l
      induction l with
      | nil => intro ks j h; cases ks with
        | nil => rfl
        | cons k ks => simp at h
      | cons e l ih => intro ks j h; cases ks with
        | nil => simp at h
        | cons k0 ks =>
          simp only [List.map_cons, List.cons.injEq] at h
          simp only [Instr.findAsking, h.1, Sem.run_bind, run_equal_pair w hu he hi hs, Result.andThen_ok, List.map_cons, fnd]
          by_cases e0 : a = k0
          · simp [e0]
          · simp only [e0, decide_false, Bool.false_eq_true, if_false]
            exact ih ks (j + 1) h.2
    simp only [Instr.findKey, Sem.run_bind, run_underlying hu, Result.andThen_ok]
    cases l with
    | nil => cases ks with
      | nil => rfl
      | cons k ks => simp at hl
    | cons e l =>
      have hn : Instr.findNow (.array 2 ‹TypeId›) (pairV k a) (e :: l) 0 = none := by
        simp [Instr.findNow, Instr.sameNow]
      rw [hn]
      exact hgen (e :: l) ks 0 hl
  bits := fun a => by
    unfold pairV
    simp [Instr.sameBits]
end

namespace Cn
/-- A signal. -/
structure Sig where
  kind : Int
  data : ByteArray
  self : Bool
  code : Int
  n : Int
/-- A unit. -/
structure Pd where
  kind : Int
  sq : Int
  n : Int
  ps : Int
  mr : Int
  lA : Option Addr
  ln : Nat
  lc : Nat
  self : Bool
  data : ByteArray
/-- A connection. -/
structure S where
  most : Int
  credit : Int
  state : Int
  sq : Int
  peer : Int
  cc : Int
  ms : Int
  data : ByteArray
/-- What a call brings. -/
structure R where
  sigs : List Sig
  units : List Pd
  begins : Bool
  ends : Bool
  ms : Int
  timer : Int

def no : ByteArray := ByteArray.empty
def r0 : R := ⟨[], [], false, false, 0, 0⟩
def sig (kind : Int) (self : Bool) (data : ByteArray) : Sig := ⟨kind, data, self, 0, 0⟩
def unit_ (kind sq : Int) (self : Bool) (data : ByteArray) : Pd := ⟨kind, sq, 0, 0, 0, none, 0, 0, self, data⟩
def has (k : Int) : Bool := k == 1 || k == 2 || k == 5 || k == 6 || k == 9 || k == 15
abbrev SR := S × R

def tell (x : SR) (s : Sig) : SR := (x.1, { x.2 with sigs := x.2.sigs ++ [s] })
def crd (x : S) (p : Pd) : Pd := if has p.kind then { p with n := x.credit } else p
def out (x : SR) (p : Pd) : SR := (x.1, { x.2 with units := x.2.units ++ [crd x.1 p] })
def to (x : SR) (st : Int) : SR := ({ x.1 with state := st }, { x.2 with ends := x.2.ends || x.1.state == 10 })
def stop (x : SR) (st : Int) : SR := let y := to x st; (y.1, { y.2 with timer := 2 })
def ready (x : SR) : SR := let y := stop x 10; (y.1, { y.2 with begins := true, ms := y.1.ms })
def akind (st : Int) : Int := if st = 2 then 1 else if st = 4 then 3 else if st = 5 then 5 else 9
def again (x : SR) : SR := let y := out x (unit_ (akind x.1.state) x.1.sq false x.1.data); (y.1, { y.2 with timer := 1 })
def begin_ (x : SR) (st : Int) (data : ByteArray) : SR :=
  let y := to x st
  again ({ y.1 with sq := (y.1.sq + 1) % 256, cc := 1, data := data }, y.2)
def leave (x : SR) (data : ByteArray) : SR :=
  let y := to x 4
  again ({ y.1 with cc := 1, data := data }, y.2)
def quit (x : SR) : SR := out x (unit_ 3 x.1.sq true no)
def report (x : SR) (code : Int) : SR := tell x ⟨12, no, false, code, 0⟩
def backs (x : SR) (p : Pd) (kind : Int) (l : List Int) : SR := l.foldl (fun x s => if s = x.1.state then out x (unit_ kind p.sq false no) else x) x
def heard (x : SR) (p : Pd) : SR := ({ x.1 with peer := p.sq, ms := p.n }, x.2)

def ask (x : SR) (kind : Int) (data : ByteArray) : SR :=
  if kind = 1 then begin_ x 2 data
  else if kind = 2 then ready (out x (unit_ 2 x.1.peer false no))
  else if kind = 3 then (if x.1.state = 3 then to (out x (unit_ 7 x.1.peer false data)) 1 else leave x data)
  else if kind = 4 then begin_ x 5 data
  else if kind = 5 then ready (out x (unit_ 6 x.1.peer false no))
  else if kind = 6 then (if x.1.state = 9 then ready (out x (unit_ 15 x.1.peer false no)) else ready x)
  else x
def oldBegin (x : SR) (p : Pd) : SR := backs (backs x p 7 [1]) p 2 [5, 6, 7, 8, 9, 10]
def newBegin (x : SR) (p : Pd) : SR :=
  let y := heard x p
  if x.1.state = 1 then to (tell y (sig 1 false p.data)) 3
  else if x.1.state = 2 then ready (tell (backs y p 2 [2]) (sig 2 false no))
  else if x.1.state = 4 then stop (tell (tell y (sig 4 false no)) (sig 1 false p.data)) 3
  else stop (tell (tell y (sig 3 false no)) (sig 1 false p.data)) 3
def end_ (x : SR) (p : Pd) : SR :=
  let y := out x (unit_ 4 p.sq false no)
  if x.1.state = 1 then y
  else if x.1.state = 4 then stop (tell y (sig 4 false no)) 1
  else stop (tell y (sig 3 p.self p.data)) 1
def resync (x : SR) (p : Pd) : SR :=
  let y := heard x p
  if x.1.state = 5 then ready (tell (out y (unit_ 6 p.sq false no)) (sig 6 false no))
  else if x.1.state = 6 then y
  else stop (tell y (sig 5 false p.data)) 6
def recover (x : SR) (p : Pd) : SR :=
  let y := backs (heard x p) p 15 [7, 8]
  if x.1.state = 7 then stop (tell y (sig 7 false no)) 8
  else if x.1.state = 10 then to (tell y (sig 7 false no)) 9
  else y
def setMs (x : SR) (p : Pd) : SR := ({ x.1 with ms := p.n }, x.2)
def answer (x : SR) (p : Pd) : SR :=
  if p.kind = 2 then ready (tell (setMs x p) (sig 2 false no))
  else if p.kind = 6 then ready (tell (setMs x p) (sig 6 false no))
  else if p.kind = 15 then stop (tell (setMs x p) (sig 7 false no)) 8
  else if p.kind = 7 ∨ p.kind = 4 then stop (tell x (if x.1.state = 2 then sig 3 false p.data else sig 4 false no)) 1
  else x
def handle (x : SR) (p : Pd) : SR :=
  if p.kind = 1 then (if p.sq = x.1.peer then oldBegin x p else newBegin x p)
  else if p.kind = 3 then end_ x p
  else if p.kind = 5 then (if p.sq = x.1.peer then backs x p 6 [7, 8, 9, 10] else resync x p)
  else if p.kind = 9 then (if p.sq = x.1.peer then backs x p 15 [8, 10] else recover x p)
  else if p.sq = x.1.sq then answer x p else x

theorem backs_fst (x : SR) (p : Pd) (kind : Int) (l : List Int) : (backs x p kind l).1 = x.1 := by
  unfold backs
  induction l generalizing x with
  | nil => rfl
  | cons s l ih =>
    rw [List.foldl_cons, ih]
    split <;> rfl
theorem backs_snoc (x : SR) (p : Pd) (kind : Int) (l : List Int) (s : Int) : backs x p kind (l ++ [s]) = if s = x.1.state then out (backs x p kind l) (unit_ kind p.sq false no) else backs x p kind l := by
  have h := backs_fst x p kind l
  unfold backs at h ⊢
  rw [List.foldl_append, List.foldl_cons, List.foldl_nil, h]
def fail (x : SR) (code : Int) : SR := begin_ (report x code) 7 no
def silent (x : SR) : SR := to (tell (quit (report x 80)) (sig 3 true no)) 1
def expire (x : SR) : SR :=
  if x.1.state = 2 ∨ x.1.state = 4 ∨ x.1.state = 5 ∨ x.1.state = 7 then
    (if x.1.cc < x.1.most then again ({ x.1 with cc := x.1.cc + 1 }, x.2)
    else if x.1.state = 4 then stop (tell (report x 79) (sig 4 false no)) 1 else stop (tell (quit (report x 79)) (sig 3 true no)) 1)
  else x
/-- what: the word of rules.Of, l: its letter. -/
def hear (what l : Int) (x : SR) (p : Pd) : SR :=
  if what = 1 then handle x p
  else if what = 2 then report x l
  else if what = 3 then quit (report x l)
  else if what = 4 then stop (tell (report x l) (sig 3 true no)) 1
  else x
def new (most credit : Int) : S := ⟨max 1 (min most 16), credit % 16777216, 1, 0, -1, 0, credit % 16777216, no⟩
/-- Few are in it. -/
def Few (n : Nat) (x : SR) : Prop := x.2.sigs.length ≤ n ∧ x.2.units.length ≤ n
/-- Its numbers are in their bounds. -/
structure Ok (s : S) : Prop where
  sq0 : 0 ≤ s.sq
  sq1 : s.sq ≤ 255
  cc0 : 0 ≤ s.cc
  cc1 : s.cc ≤ 16
  most0 : 1 ≤ s.most
  most1 : s.most ≤ 16
end Cn
end Go.Proofs.YtipaobpmojahaaaGreat

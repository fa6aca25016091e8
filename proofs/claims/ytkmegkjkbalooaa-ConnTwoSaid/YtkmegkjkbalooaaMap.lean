/-
  Maps: what lies in a map's block, look-up, store, deletion. Over any program.
-/
import Derived.Test.YtkmegkjkbalooaaMem
import Derived.MapKept
import Derived.OwnWalk
import Derived.Maps.Own
import Derived.Maps.OwnSet
namespace Go.Proofs.Ytkmegkjkbalooaa
open Go.RowKit

/-- Where a key stands. -/
def fnd {κ : Type} [DecidableEq κ] (a : κ) : List κ → List Value → Nat → Option (Nat × Value)
  | k :: ks, v :: vs, i => if a = k then some (i, v) else fnd a ks vs (i + 1)
  | _, _, _ => none

/-- How keys of a type are written and compared. -/
structure KT (P : Program) (κ : Type) [DecidableEq κ] where
  t : TypeId
  enc : κ → Value
  inj : ∀ a b, enc a = enc b → a = b
  check : ∀ e a w, (Instr.checkKey e 10000 t (enc a)).run P w = .ok () w
  find : ∀ (a : κ) (l : List MapEntry) (ks : List κ) (w : World), l.map (·.key) = ks.map enc → (Instr.findKey t (enc a) l).run P w = .ok (fnd a ks (l.map (·.val)) 0) w
  bits : ∀ a, Instr.sameBits 10000 (enc a) (enc a) = true

section
variable {κ : Type} [DecidableEq κ]

abbrev MList (κ : Type) := List (κ × Value)
variable {β : Type}
def mget (m : List (κ × β)) (k : κ) : Option β := (m.find? fun p => decide (p.1 = k)).map (·.2)
def mset (m : List (κ × β)) (k : κ) (v : β) : List (κ × β) := if k ∈ m.map (·.1) then m.map (fun p => if p.1 = k then (k, v) else p) else m ++ [(k, v)]
def mdel (m : List (κ × β)) (k : κ) : List (κ × β) := m.filter fun p => decide (p.1 ≠ k)

theorem mget_nil (k : κ) : mget ([] : List (κ × β)) k = none := rfl
theorem mget_cons (p : κ × β) (m : List (κ × β)) (k : κ) : mget (p :: m) k = if p.1 = k then some p.2 else mget m k := by
  unfold mget
  by_cases h : p.1 = k <;> simp [List.find?_cons, h]
theorem mget_none {m : List (κ × β)} {k : κ} : mget m k = none ↔ k ∉ m.map (·.1) := by
  induction m with
  | nil => simp [mget]
  | cons p m ih =>
    rw [mget_cons]
    by_cases h : p.1 = k
    · simp [h]
    · rw [if_neg h, ih]
      simp [Ne.symm h]
theorem mget_append (m m' : List (κ × β)) (k : κ) : mget (m ++ m') k = (mget m k).or (mget m' k) := by
  induction m with
  | nil => simp [mget]
  | cons p m ih =>
    rw [List.cons_append, mget_cons, mget_cons]
    by_cases h : p.1 = k
    · simp [h]
    · simp [h, ih]
theorem mget_map_set (m : List (κ × β)) (k k' : κ) (v : β) : mget (m.map fun p => if p.1 = k then (k, v) else p) k' = if k' = k then (if k ∈ m.map (·.1) then some v else none) else mget m k' := by
  induction m with
  | nil => simp [mget]
  | cons p m ih =>
    rw [List.map_cons, mget_cons, ih, mget_cons]
    by_cases h : p.1 = k
    · by_cases h' : k' = k
      · subst h'; simp [h]
      · simp [h, h', Ne.symm h']
    · by_cases h' : k' = k
      · subst h'
        have e : k' ∈ (p :: m).map (·.1) ↔ k' ∈ m.map (·.1) := by rw [List.map_cons, List.mem_cons]; exact ⟨fun h' => h'.resolve_left (Ne.symm h), .inr⟩
        simp only [e, if_neg h, if_true]
      · simp [h, h']
theorem mget_mset (m : List (κ × β)) (k k' : κ) (v : β) : mget (mset m k v) k' = if k' = k then some v else mget m k' := by
  unfold mset
  by_cases h : k ∈ m.map (·.1)
  · rw [if_pos h, mget_map_set]
    simp only [h, if_true]
  · rw [if_neg h, mget_append, mget_cons, mget_nil]
    by_cases h' : k' = k
    · subst h'
      rw [mget_none.2 h]
      simp
    · simp [h', Ne.symm h']
theorem keys_mset (m : List (κ × β)) (k : κ) (v : β) : (mset m k v).map (·.1) = if k ∈ m.map (·.1) then m.map (·.1) else m.map (·.1) ++ [k] := by
  unfold mset
  by_cases h : k ∈ m.map (·.1)
  · rw [if_pos h, if_pos h, List.map_map]
    refine List.map_congr_left fun p _ => ?_
    by_cases hp : p.1 = k <;> simp [hp]
  · rw [if_neg h, if_neg h]; simp
theorem nodup_mset {m : List (κ × β)} (h : (m.map (·.1)).Nodup) (k : κ) (v : β) : ((mset m k v).map (·.1)).Nodup := by
  rw [keys_mset]
  split
  · exact h
  · rename_i hk
    exact List.nodup_append.2 ⟨h, by simp, fun a ha b hb => by simp at hb; subst hb; exact fun e => hk (e ▸ ha)⟩
theorem mget_mdel (m : List (κ × β)) (k k' : κ) : mget (mdel m k) k' = if k' = k then none else mget m k' := by
  induction m with
  | nil => simp [mdel, mget]
  | cons p m ih =>
    unfold mdel at *
    rw [mget_cons, List.filter_cons]
    by_cases h : p.1 = k
    · rw [if_neg (by simp [h]), ih]
      by_cases h' : k' = k
      · simp [h']
      · have : ¬ p.1 = k' := fun e => h' (e.symm.trans h)
        simp [h', this]
    · rw [if_pos (by simp [h]), mget_cons, ih]
      by_cases h' : k' = k
      · subst h'; simp [h]
      · simp [h']
theorem nodup_mdel {m : List (κ × β)} (h : (m.map (·.1)).Nodup) (k : κ) : ((mdel m k).map (·.1)).Nodup :=
  List.Nodup.sublist (List.Sublist.map _ List.filter_sublist) h

theorem mget_lift {γ : Type} (f : β → γ) (m : List (κ × β)) (k : κ) : mget (m.map fun p => (p.1, f p.2)) k = (mget m k).map f := by
  induction m with
  | nil => rfl
  | cons p m ih =>
    rw [List.map_cons, mget_cons, mget_cons, ih]
    by_cases h : p.1 = k <;> simp [h]
theorem mset_lift {γ : Type} (f : β → γ) (m : List (κ × β)) (k : κ) (v : β) : mset (m.map fun p => (p.1, f p.2)) k (f v) = (mset m k v).map fun p => (p.1, f p.2) := by
  unfold mset
  have e : (m.map fun p => (p.1, f p.2)).map (·.1) = m.map (·.1) := by rw [List.map_map]; rfl
  rw [e]
  by_cases h : k ∈ m.map (·.1)
  · rw [if_pos h, if_pos h, List.map_map, List.map_map]
    refine List.map_congr_left fun p _ => ?_
    by_cases hp : p.1 = k <;> simp [hp]
  · rw [if_neg h, if_neg h]; simp
theorem mdel_lift {γ : Type} (f : β → γ) (m : List (κ × β)) (k : κ) : mdel (m.map fun p => (p.1, f p.2)) k = (mdel m k).map fun p => (p.1, f p.2) := by
  unfold mdel
  rw [List.filter_map]
  rfl

theorem fnd_spec (a : κ) : ∀ (ks : List κ) (vs : List Value) (i : Nat), ks.length = vs.length →
    (fnd a ks vs i = none ∧ a ∉ ks) ∨ ∃ j, ∃ (h1 : j < ks.length) (h2 : j < vs.length), fnd a ks vs i = some (i + j, vs[j]) ∧ ks[j] = a ∧ ∀ q, (hq : q < j) → ks[q]'(by omega) ≠ a
  | [], vs, i, _ => .inl ⟨by cases vs <;> rfl, by simp⟩
  | k :: ks, [], i, h => by simp at h
  | k :: ks, v :: vs, i, h => by
    by_cases hk : a = k
    · subst hk
      exact .inr ⟨0, by simp, by simp, by simp [fnd], rfl, fun q hq => by omega⟩
    · rcases fnd_spec a ks vs (i + 1) (by simpa using h) with ⟨h1, h2⟩ | ⟨j, h1, h2, h3, h4, h5⟩
      · exact .inl ⟨by simp [fnd, hk, h1], by simp [hk, h2]⟩
      · refine .inr ⟨j + 1, by simp; omega, by simp; omega, by simp [fnd, hk, h3]; omega, by simpa using h4, fun q hq => ?_⟩
        cases q with
        | zero => exact fun e => hk e.symm
        | succ q => exact h5 q (by omega)

/-- The map's block b holds just the entries of m, in this order. -/
def MapAt {P : Program} (K : KT P κ) (w : World) (b : Nat) (m : MList κ) : Prop :=
  (m.map (·.1)).Nodup ∧ ∃ es clock, w.heap[b]? = some (.map es clock) ∧ es.toList.map (·.key) = (m.map (·.1)).map K.enc ∧ es.toList.map (·.val) = m.map (·.2) ∧ MapKept.Stamped es clock

variable {P : Program} {K : KT P κ} {w w' : World} {b : Nat} {m : MList κ}
theorem MapAt.lt (h : MapAt K w b m) : b < w.heap.size := by
  obtain ⟨_, es, cl, hb, _⟩ := h
  exact (Array.getElem?_eq_some_iff.1 hb).1
theorem MapAt.keep (h : MapAt K w b m) (hk : w'.heap[b]? = w.heap[b]?) : MapAt K w' b m := by
  obtain ⟨hn, es, cl, hb, r⟩ := h
  exact ⟨hn, es, cl, hk.trans hb, r⟩
theorem MapAt.touch {S : Nat → Prop} (h : MapAt K w b m) (ht : Touch S w w') (hs : ¬ S b) : MapAt K w' b m := h.keep (ht.block b h.lt hs)
theorem MapAt.alloc (h : MapAt K w b m) (o : Obj) : MapAt K (w.alloc o) b m := h.keep (Below.heap_alloc w o b h.lt)
theorem MapAt.drew (h : MapAt K w b m) : MapAt K w.drew b m := h
theorem MapAt.setCell (h : MapAt K w b m) {p : Addr} (hp : b ≠ p.block) (u : Value) : MapAt K (w.setCell p u) b m := h.keep (Below.heap_setCell w p u b hp)
theorem MapAt.made (K : KT P κ) (w : World) : MapAt K (w.alloc (.map #[] 0)) w.heap.size ([] : MList κ) :=
  ⟨by simp, #[], 0, heap_alloc_new w _, by simp, by simp, MapKept.stamped_empty 0⟩
theorem MapAt.nodup (h : MapAt K w b m) : (m.map (·.1)).Nodup := h.1
theorem MapAt.blk_ne {g : Nat} {t : TypeId} {cs : List Value} (h : MapAt K w b m) (hb : Blk w g t cs) : b ≠ g := by
  rintro rfl
  obtain ⟨_, es, cl, hb', _⟩ := h
  unfold Blk at hb
  rw [hb] at hb'
  cases hb'
theorem mlen (h : MapAt K w b m) : ∃ es cl, w.heap[b]? = some (.map es cl) ∧ es.size = m.length := by
  obtain ⟨_, es, cl, hb, hk, _⟩ := h
  refine ⟨es, cl, hb, ?_⟩
  have := congrArg List.length hk
  simpa using this

theorem fnd_mget (m : MList κ) (k : κ) (i : Nat) : (fnd k (m.map (·.1)) (m.map (·.2)) i).map (·.2) = mget m k := by
  induction m generalizing i with
  | nil => rfl
  | cons p m ih =>
    rw [mget_cons]
    simp only [List.map_cons, fnd]
    by_cases h : k = p.1
    · simp [h]
    · simp [h, Ne.symm h, ih]

/-- 'm[k]' and 'v, ok := m[k]'. -/
theorem MapAt.look {T e : TypeId} (h : MapAt K w b m) (hT : P.underlying T = some (.map K.t e)) {z : Value} (hz : (zeroValue e).run P w = .ok z w) (k : κ) (ok : Bool) :
    (Instr.lookup T (.map (some b)) (K.enc k) ok).run P w = .ok (if ok then .tuple #[(mget m k).getD z, .bool (mget m k).isSome] else (mget m k).getD z) w := by
  obtain ⟨_, es, cl, hb, hk, hv, _⟩ := h
  have hfind := K.find k es.toList _ w hk
  rw [hv] at hfind
  have hfm := fnd_mget m k 0
  have hg := MapKept.run_getObj_map (P := P) hb
  simp only [Instr.lookup, Sem.run_bind, run_underlying hT, Result.andThen_ok, hg, K.check, hfind, Sem.run_pure]
  cases hc : fnd k (m.map (·.1)) (m.map (·.2)) 0 with
  | none =>
    rw [hc] at hfm
    rw [← hfm]
    cases ok <;> simp [hz]
  | some x =>
    rw [hc] at hfm
    rw [← hfm]
    cases ok <;> simp

/-- 'm[k] = v'. -/
theorem MapAt.store {T e : TypeId} (h : MapAt K w b m) (hT : P.underlying T = some (.map K.t e)) (k : κ) (v : Value) :
    ∃ w', (Instr.mapUpdate T (.map (some b)) (K.enc k) v).run P w = .ok () w' ∧ MapAt K w' b (mset m k v) ∧ Touch (· = b) w w' := by
  have h0 := h
  obtain ⟨hn, es, cl, hb, hk, hv, hst⟩ := h
  have hfind := K.find k es.toList _ w hk
  rw [hv] at hfind
  have hg := MapKept.run_getObj_map (P := P) hb
  have htouch : ∀ o, Touch (· = b) w { w with heap := w.heap.setIfInBounds b o } := fun o =>
    ⟨rfl, rfl, rfl, by simp, fun j hj hne => (MapKept.heap_set hb (o' := o)).2 j hne⟩
  have hlen : es.toList.length = m.length := by have := congrArg List.length hk; simpa using this
  rcases fnd_spec k (m.map (·.1)) (m.map (·.2)) 0 (by simp) with ⟨h1, h2⟩ | ⟨j, h1, h2, h3, h4, h5⟩
  · rw [h1] at hfind
    have hkeys : ∀ x ∈ es.toList, x.key ≠ K.enc k := by
      intro x hx e
      have : K.enc k ∈ es.toList.map (·.key) := e ▸ List.mem_map_of_mem hx
      rw [hk] at this
      obtain ⟨k', hk', e'⟩ := List.mem_map.1 this
      exact h2 (K.inj _ _ e' ▸ hk')
    refine ⟨_, ?_, ⟨nodup_mset hn k v, es.push { key := K.enc k, val := v, born := cl }, cl + 1, (MapKept.heap_set hb).1, ?_, ?_, MapKept.stamped_push hst hkeys⟩, htouch _⟩
    · simp only [Instr.mapUpdate, Sem.run_bind, run_underlying hT, Result.andThen_ok, hg, K.check, hfind]
      exact MapKept.run_setObj_map _ hb
    · unfold mset; rw [if_neg h2]; simp [hk]
    · unfold mset; rw [if_neg h2]; simp [hv]
  · rw [h3] at hfind
    have hj : j < es.toList.length := by rw [hlen]; simpa using h1
    have hj' : j < es.size := by simpa using hj
    have hkj : es[j].key = K.enc k := by
      have : (es.toList.map (·.key))[j]? = ((m.map (·.1)).map K.enc)[j]? := by rw [hk]
      rw [List.getElem?_map, List.getElem?_map, List.getElem?_eq_getElem hj, List.getElem?_eq_getElem h1] at this
      simpa [h4] using this
    have hmem : k ∈ m.map (·.1) := h4 ▸ List.getElem_mem h1
    have hstay : (Instr.keyThatStays (((es[j]?).map (·.key)).getD (K.enc k)) (K.enc k)).run P w = .ok (K.enc k) w := by
      rw [Array.getElem?_eq_getElem hj']
      simp [Instr.keyThatStays, hkj, K.bits]
    have hmod : ∀ (q : Nat) (hq : q < es.size), (es.modify j fun e => { e with key := K.enc k, val := v })[q]'(by simpa using hq) = if q = j then { es[q] with key := K.enc k, val := v } else es[q] := by
      intro q hq
      rw [Array.getElem_modify]
      by_cases e : j = q <;> simp [e, eq_comm]
    have hnd : ∀ (q : Nat) (hq : q < m.length), m[q].1 = k ↔ q = j := by
      intro q hq
      have hj1 : m[j].1 = k := by simpa using h4
      constructor
      · intro e
        have hpw := List.pairwise_iff_getElem.1 hn
        rcases Nat.lt_trichotomy q j with hlt | heq | hgt
        · exact absurd (by rw [h4, List.getElem_map]; exact e) (hpw q j (by simpa using hq) h1 hlt)
        · exact heq
        · exact absurd (by rw [h4, List.getElem_map]; exact e.symm) (hpw j q h1 (by simpa using hq) hgt)
      · rintro rfl; exact hj1
    refine ⟨_, ?_, ⟨nodup_mset hn k v, es.modify j fun e => { e with key := K.enc k, val := v }, cl, (MapKept.heap_set hb).1, ?_, ?_, ?_⟩, htouch _⟩
    · simp only [Instr.mapUpdate, Sem.run_bind, run_underlying hT, Result.andThen_ok, hg, K.check, hfind, Nat.zero_add, hstay]
      exact MapKept.run_setObj_map _ hb
    · rw [keys_mset, if_pos hmem, ← hk]
      exact MapKept.modify_keys j _ (fun e he => by rw [Array.getElem?_eq_getElem hj'] at he; injection he with he; subst he; exact hkj.symm)
    · unfold mset
      rw [if_pos hmem]
      apply List.ext_getElem
      · simp; simpa using hlen
      · intro q hq1 hq2
        have hqs : q < es.size := by simpa using hq1
        have hqm : q < m.length := by simpa using hq2
        have hvq : es[q].val = m[q].2 := by
          have : (es.toList.map (·.val))[q]? = (m.map (·.2))[q]? := by rw [hv]
          simpa [List.getElem?_map, hqs, hqm] using this
        simp only [List.getElem_map, Array.getElem_toList]
        rw [hmod q hqs]
        by_cases e : q = j
        · subst e
          have := (hnd q hqm).2 rfl
          simp [this]
        · have : ¬ m[q].1 = k := fun h => e ((hnd q hqm).1 h)
          simp [e, this, hvq]
    · refine MapKept.stamped_modify hst j _ (fun _ _ => rfl) (fun e _ he => ?_)
      rw [Array.getElem?_eq_getElem hj'] at he
      injection he with he
      subst he
      exact hkj.symm
end

/-- Keys that are integers of one kind. -/
def KT.int {P : Program} (t : TypeId) (k : IntKind) (hu : P.underlying t = some (.int k)) : KT P Int where
  t := t
  enc := fun n => .int k n
  inj := fun a b e => by injection e
  check := fun e a w => MapKept.run_checkKey hu (by simp [MapKept.IsKey]) e 9999
  find := by
    intro a l ks w hl
    refine MapKept.run_findKey hu ?_
    have hgen : ∀ (l : List MapEntry) (ks : List Int) (i : Nat), l.map (·.key) = ks.map (fun n => Value.int k n) → Instr.findNow (.int k) (.int k a) l i = some (fnd a ks (l.map (·.val)) i) := by
      intro l
      induction l with
      | nil => intro ks i h; cases ks with
        | nil => rfl
        | cons k ks => simp at h
      | cons e l ih => intro ks i h; cases ks with
        | nil => simp at h
        | cons k0 ks =>
          simp only [List.map_cons, List.cons.injEq] at h
          simp only [Instr.findNow, h.1, Instr.sameNow, if_true, List.map_cons, fnd]
          by_cases e0 : a = k0
          · simp [e0]
          · have : (a == k0) = false := by simpa using e0
            simp only [this, e0, if_false]
            exact ih ks (i + 1) h.2
    exact hgen l ks 0 hl
  bits := fun a => by simp [Instr.sameBits]

section
variable {κ : Type} [DecidableEq κ] {P : Program} {K : KT P κ}
theorem wpList_lookM {ops : Array Oper} {rest : List Oper} {o : Oper} {a : Act} {w : World} {Q : Exit → Act → World → Prop} (hg : o.guard = none) {x y : Operand} {T e : TypeId} {ok : Bool} (hop : o.op = Op.lookup T x y ok)
    {b : Nat} {m : MList κ} {k : κ} (ex : a.eval x = .map (some b)) (ey : a.eval y = K.enc k) (h : MapAt K w b m) (hT : P.underlying T = some (.map K.t e)) {z : Value} (hz : (zeroValue e).run P w = .ok z w)
    (hK : wpList P ops Q rest (a.put o.dst (if ok then .tuple #[(mget m k).getD z, .bool (mget m k).isSome] else (mget m k).getD z)) w) : wpList P ops Q (o :: rest) a w := by
  refine wpList_plain hg fun _ hk => ?_
  unfold Oper.wp
  simp only [execOp, hop, ex, ey, Sem.run_bind, Result.andThen_ok, h.look hT hz k ok, Sem.run_pure]
  exact hk _ _ hK
theorem wpList_storeM {ops : Array Oper} {rest : List Oper} {o : Oper} {a : Act} {w : World} {Q : Exit → Act → World → Prop} (hg : o.guard = none) {x y v : Operand} {T e : TypeId} (hop : o.op = Op.mapUpdate T x y v)
    {b : Nat} {m : MList κ} {k : κ} (ex : a.eval x = .map (some b)) (ey : a.eval y = K.enc k) (h : MapAt K w b m) (hT : P.underlying T = some (.map K.t e))
    (hK : ∀ w', MapAt K w' b (mset m k (a.eval v)) → Touch (· = b) w w' → wpList P ops Q rest (a.put o.dst undef) w') : wpList P ops Q (o :: rest) a w := by
  refine wpList_plain hg fun _ hk => ?_
  obtain ⟨w', hr, h1, h2⟩ := h.store hT k (a.eval v)
  unfold Oper.wp
  simp only [execOp, hop, ex, ey, Sem.run_bind, Result.andThen_ok, hr, Sem.run_pure]
  exact hk _ _ (hK w' h1 h2)
end
end Go.Proofs.Ytkmegkjkbalooaa

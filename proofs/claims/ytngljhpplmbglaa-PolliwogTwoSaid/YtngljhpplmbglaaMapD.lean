/-
  Maps: deletion, and a loop over a map. Over any program.
-/
import Derived.Test.YtngljhpplmbglaaMap
import Derived.Maps.RangeWalk
namespace Go.Proofs.Ytngljhpplmbglaa
open Go.RowKit
open Go.ChangeMaps (setBlock)

theorem map_erase {α β : Type} (f : α → β) : ∀ (l : List α) (j : Nat), (l.eraseIdx j).map f = (l.map f).eraseIdx j
  | [], _ => rfl
  | _ :: _, 0 => rfl
  | a :: l, j + 1 => by
    rw [List.eraseIdx_cons_succ, List.map_cons, List.map_cons, List.eraseIdx_cons_succ, map_erase f l j]

section
variable {κ : Type} [DecidableEq κ] {β : Type}
theorem mdel_erase : ∀ (m : List (κ × β)) (k : κ) (j : Nat), (m.map (·.1)).Nodup → (hj : j < m.length) → m[j].1 = k → mdel m k = m.eraseIdx j
  | [], _, _, _, hj, _ => by simp at hj
  | p :: m, k, 0, hn, _, e => by
    simp only [List.getElem_cons_zero] at e
    rw [List.map_cons, List.nodup_cons] at hn
    unfold mdel
    rw [List.filter_cons, if_neg (by simp [e]), List.eraseIdx_cons_zero, List.filter_eq_self]
    intro q hq
    have : q.1 ≠ k := fun h => hn.1 (by rw [e, ← h]; exact List.mem_map_of_mem hq)
    simp [this]
  | p :: m, k, j + 1, hn, hj, e => by
    simp only [List.getElem_cons_succ] at e
    rw [List.map_cons, List.nodup_cons] at hn
    have hj' : j < m.length := by simpa using hj
    have hp : p.1 ≠ k := fun h => hn.1 (by rw [h, ← e]; exact List.mem_map_of_mem (List.getElem_mem hj'))
    have ih := mdel_erase m k j hn.2 hj' e
    unfold mdel at ih ⊢
    rw [List.filter_cons, if_pos (by simp [hp]), List.eraseIdx_cons_succ, ih]
theorem mdel_out (m : List (κ × β)) (k : κ) (h : k ∉ m.map (·.1)) : mdel m k = m := by
  unfold mdel
  rw [List.filter_eq_self]
  intro q hq
  have : q.1 ≠ k := fun e => h (e ▸ List.mem_map_of_mem hq)
  simp [this]
theorem mdel_len (m : List (κ × β)) (k : κ) (hn : (m.map (·.1)).Nodup) {v : β} (h : mget m k = some v) : (mdel m k).length + 1 = m.length := by
  have hk : k ∈ m.map (·.1) := by
    rcases Decidable.em (k ∈ m.map (·.1)) with h' | h'
    · exact h'
    · rw [mget_none.2 h'] at h; cases h
  obtain ⟨j, hj, e⟩ := List.getElem_of_mem hk
  have hj' : j < m.length := by simpa using hj
  rw [mdel_erase m k j hn hj' (by simpa using e), List.length_eraseIdx, if_pos hj']
  omega
end

section
variable {κ : Type} [DecidableEq κ] {P : Program} {K : KT P κ} {w w' : World} {b r : Nat} {m : MList κ} {D : List κ}

/-- 'delete(m, k)'. -/
theorem MapAt.del {T e : TypeId} (h : MapAt K w b m) (hT : P.underlying T = some (.map K.t e)) (k : κ) (ty : TypeId) :
    ∃ w', (Builtin.delete_ #[T, K.t] ty #[.map (some b), K.enc k]).run P w = .ok (.tuple #[]) w' ∧ MapAt K w' b (mdel m k) ∧ Touch (· = b) w w' := by
  obtain ⟨hn, es, cl, hb, hk, hv, hst⟩ := h
  have hfind := K.find k es.toList _ w hk
  rw [hv] at hfind
  have hg := MapKept.run_getObj_map (P := P) hb
  have htouch : ∀ o, Touch (· = b) w { w with heap := w.heap.setIfInBounds b o } := fun o =>
    ⟨rfl, rfl, rfl, by simp, fun j hj hne => (MapKept.heap_set hb (o' := o)).2 j hne⟩
  have hlen : es.toList.length = m.length := by have := congrArg List.length hk; simpa using this
  rcases fnd_spec k (m.map (·.1)) (m.map (·.2)) 0 (by simp) with ⟨h1, h2⟩ | ⟨j, h1, h2, h3, h4, h5⟩
  · rw [h1] at hfind
    refine ⟨{ w with heap := w.heap.setIfInBounds b (.map es cl) }, ?_, ⟨?_, es, cl, (MapKept.heap_set hb).1, ?_, ?_, hst⟩, htouch _⟩
    · simp [Builtin.delete_, run_underlying hT, hg, K.check, hfind, MapKept.run_setObj_map _ hb, Result.andThen]
    · rw [mdel_out m k h2]; exact hn
    · rw [mdel_out m k h2]; exact hk
    · rw [mdel_out m k h2]; exact hv
  · rw [h3] at hfind
    have hj' : j < m.length := by simpa using h1
    have hmd : mdel m k = m.eraseIdx j := mdel_erase m k j hn hj' (by simpa using h4)
    refine ⟨{ w with heap := w.heap.setIfInBounds b (.map (es.eraseIdxIfInBounds j) cl) }, ?_, ⟨?_, es.eraseIdxIfInBounds j, cl, (MapKept.heap_set hb).1, ?_, ?_, MapKept.stamped_erase hst j⟩, htouch _⟩
    · simp [Builtin.delete_, run_underlying hT, hg, K.check, hfind, MapKept.run_setObj_map _ hb, Result.andThen]
    · exact nodup_mdel hn k
    · have e : (es.eraseIdxIfInBounds j).toList = es.toList.eraseIdx j := by
        unfold Array.eraseIdxIfInBounds
        rw [dif_pos (by have := hlen; simp at this; omega), Array.toList_eraseIdx]
      rw [e, hmd, map_erase, hk, map_erase, map_erase]
    · have e : (es.eraseIdxIfInBounds j).toList = es.toList.eraseIdx j := by
        unfold Array.eraseIdxIfInBounds
        rw [dif_pos (by have := hlen; simp at this; omega), Array.toList_eraseIdx]
      rw [e, hmd, map_erase, hv, map_erase]

theorem wpList_delM {ops : Array Oper} {rest : List Oper} {o : Oper} {a : Act} {Q : Exit → Act → World → Prop} (hg : o.guard = none) {x y : Operand} {T T2 e : TypeId} (hop : o.op = .call { callee := .builtin .delete, args := #[x, y], argTypes := #[T, T2] })
    {k : κ} (ex : a.eval x = .map (some b)) (ey : a.eval y = K.enc k) (h : MapAt K w b m) (hT : P.underlying T = some (.map K.t e)) (h2 : T2 = K.t)
    (hK : ∀ w', MapAt K w' b (mdel m k) → Touch (· = b) w w' → wpList P ops Q rest (a.put o.dst (.tuple #[])) w') : wpList P ops Q (o :: rest) a w := by
  subst h2
  refine wpList_plain hg fun _ hk => ?_
  obtain ⟨w', hr, h1, h2⟩ := h.del hT k o.type
  unfold Oper.wp execOp
  simp only [hop, resolve, invoke, builtin, Sem.run_bind, Sem.run_pure, Result.andThen_ok, List.map_toArray, List.map_cons, List.map_nil, ex, ey, hr]
  exact hk _ _ (hK w' h1 h2)

/-- A loop over the map in block b is under way: r its iterator, D the keys that came. -/
structure IterAt (K : KT P κ) (w : World) (r b : Nat) (m : MList κ) (D : List κ) : Prop where
  ex : ∃ es clock since seen c0, w.heap[b]? = some (.map es clock) ∧ es.toList.map (·.key) = (m.map (·.1)).map K.enc ∧ es.toList.map (·.val) = m.map (·.2) ∧ MapKept.Stamped es clock ∧
    w.heap[r]? = some (.mapIter (some b) since seen c0) ∧ (∀ x ∈ es.toList, x.born < since) ∧ since ≤ c0 ∧ since ≤ clock ∧ ∀ x ∈ es.toList, ∃ p ∈ m, x.key = K.enc p.1 ∧ x.val = p.2 ∧ (seen.contains x.born = true ↔ p.1 ∈ D)
  nd : (m.map (·.1)).Nodup
  ne : r ≠ b

theorem IterAt.lt (h : IterAt K w r b m D) : r < w.heap.size := by
  obtain ⟨es, cl, si, se, c0, _, _, _, _, hr, _⟩ := h.ex
  exact (Array.getElem?_eq_some_iff.1 hr).1
theorem IterAt.ltb (h : IterAt K w r b m D) : b < w.heap.size := by
  obtain ⟨es, cl, si, se, c0, hb, _⟩ := h.ex
  exact (Array.getElem?_eq_some_iff.1 hb).1
theorem IterAt.map (h : IterAt K w r b m D) : MapAt K w b m := by
  obtain ⟨es, cl, si, se, c0, hb, hk, hv, hs, _⟩ := h.ex
  exact ⟨h.nd, es, cl, hb, hk, hv, hs⟩
theorem IterAt.touch {S : Nat → Prop} (h : IterAt K w r b m D) (ht : Touch S w w') (hb' : ¬ S b) (hr' : ¬ S r) : IterAt K w' r b m D := by
  have h1 := h.lt
  have h2 := h.ltb
  obtain ⟨es, cl, si, se, c0, hb, hk, hv, hs, hr, q⟩ := h.ex
  exact ⟨⟨es, cl, si, se, c0, (ht.block b h2 hb').trans hb, hk, hv, hs, (ht.block r h1 hr').trans hr, q⟩, h.nd, h.ne⟩
theorem IterAt.left_eq (h : IterAt K w r b m D) {S : Nat → Prop} (ht : Touch S w w') (hb' : ¬ S b) (hr' : ¬ S r) : w'.rangeLeft b r = w.rangeLeft b r := by
  have h1 := h.lt
  have h2 := h.ltb
  unfold World.rangeLeft
  rw [ht.block b h2 hb', ht.block r h1 hr']

/-- Each entry is some pair of m. -/
theorem entry_pair {es : Array MapEntry} (hk : es.toList.map (·.key) = (m.map (·.1)).map K.enc) (hv : es.toList.map (·.val) = m.map (·.2)) (x : MapEntry) (hx : x ∈ es.toList) : ∃ p ∈ m, x.key = K.enc p.1 ∧ x.val = p.2 := by
  obtain ⟨j, hj, rfl⟩ := List.getElem_of_mem hx
  have hlen : es.toList.length = m.length := by have := congrArg List.length hk; simpa using this
  have hj' : j < m.length := by omega
  refine ⟨m[j], List.getElem_mem hj', ?_, ?_⟩
  · have : (es.toList.map (·.key))[j]? = ((m.map (·.1)).map K.enc)[j]? := by rw [hk]
    rw [List.getElem?_map, List.getElem?_map, List.getElem?_map, List.getElem?_eq_getElem hj, List.getElem?_eq_getElem hj'] at this
    simpa using this
  · have : (es.toList.map (·.val))[j]? = (m.map (·.2))[j]? := by rw [hv]
    rw [List.getElem?_map, List.getElem?_map, List.getElem?_eq_getElem hj, List.getElem?_eq_getElem hj'] at this
    simpa using this
theorem pair_entry {es : Array MapEntry} (hk : es.toList.map (·.key) = (m.map (·.1)).map K.enc) (hv : es.toList.map (·.val) = m.map (·.2)) (p : κ × Value) (hp : p ∈ m) : ∃ x ∈ es.toList, x.key = K.enc p.1 := by
  obtain ⟨j, hj', rfl⟩ := List.getElem_of_mem hp
  have hlen : es.toList.length = m.length := by have := congrArg List.length hk; simpa using this
  have hj : j < es.toList.length := by omega
  refine ⟨es.toList[j], List.getElem_mem hj, ?_⟩
  have : (es.toList.map (·.key))[j]? = ((m.map (·.1)).map K.enc)[j]? := by rw [hk]
  rw [List.getElem?_map, List.getElem?_map, List.getElem?_map, List.getElem?_eq_getElem hj, List.getElem?_eq_getElem hj'] at this
  simpa using this

/-- 'range m'. -/
theorem wpList_rangeM {ops : Array Oper} {rest : List Oper} {o : Oper} {a : Act} {Q : Exit → Act → World → Prop} (hg : o.guard = none) {x : Operand} {T e : TypeId} (hop : o.op = Op.range T x) (ex : a.eval x = .map (some b)) (h : MapAt K w b m) (hT : P.underlying T = some (.map K.t e))
    (hK : ∀ w', IterAt K w' w.heap.size b m [] → Fresh w w' → wpList P ops Q rest (a.put o.dst (.pointer (some ⟨w.heap.size, 0, none⟩))) w') : wpList P ops Q (o :: rest) a w := by
  refine wpList_plain hg fun _ hk => ?_
  have hlt := h.lt
  obtain ⟨hn, es, cl, hb, hkk, hv, hst⟩ := h
  have hr := run_range_map w T K.t e b es cl hT hb
  unfold Oper.wp
  simp only [execOp, hop, ex, Sem.run_bind, Result.andThen_ok, hr, Sem.run_pure]
  refine hk _ _ (hK _ ⟨⟨es, cl, cl, #[], cl, (Below.heap_alloc w _ b hlt).trans hb, hkk, hv, hst, heap_alloc_new w _, hst.1, Nat.le_refl _, Nat.le_refl _, fun y hy => ?_⟩, hn, by omega⟩ ((Touch.refl _ w).alloc _))
  obtain ⟨p, hp, e1, e2⟩ := entry_pair hkk hv y hy
  exact ⟨p, hp, e1, e2, by simp⟩

/-- The next one, whichever it is. -/
theorem wpList_nextM {ops : Array Oper} {rest : List Oper} {o : Oper} {a : Act} {Q : Exit → Act → World → Prop} (hg : o.guard = none) {it : Operand} (hop : o.op = Op.next it false) (ei : a.eval it = .pointer (some ⟨r, 0, none⟩)) (h : IterAt K w r b m D)
    (hDone : (∀ p ∈ m, p.1 ∈ D) → wpList P ops Q rest (a.put o.dst (.tuple #[.bool false])) w)
    (hMore : ∀ (p : κ × Value) (w' : World), p ∈ m → p.1 ∉ D → IterAt K w' r b m (p.1 :: D) → Touch (· = r) w w' → w'.rangeLeft b r < w.rangeLeft b r → (Instr.entry (.pointer (some ⟨r, 0, none⟩))).run P w' = .ok (.tuple #[K.enc p.1, p.2]) w' →
      wpList P ops Q rest (a.put o.dst (.tuple #[.bool true, K.enc p.1, p.2])) w') : wpList P ops Q (o :: rest) a w := by
  refine wpList_plain hg fun _ hk => ?_
  have hrl := h.lt
  have hne := h.ne
  obtain ⟨es, cl, si, se, c0, hb, hkk, hv, hst, hr, hold, hsc, hsk, hse⟩ := h.ex
  unfold Oper.wp
  rcases run_next_at (P := P) w o.type r b si c0 se es cl hr hb hold hsc with ⟨h0, hrun⟩ | ⟨e, he, w1, hal, hrun⟩
  · simp only [execOp, hop, ei, Sem.run_bind, Result.andThen_ok, hrun, Sem.run_pure]
    refine hk _ _ (hDone fun p hp => ?_)
    obtain ⟨x, hx, ex⟩ := pair_entry hkk hv p hp
    obtain ⟨q, hq, e1, _, e3⟩ := hse x hx
    have : q.1 = p.1 := K.inj _ _ (e1.symm.trans ex)
    rw [← this]
    exact e3.1 (all_seen es se h0 x hx)
  · obtain ⟨hem, hes⟩ := mem_left he
    obtain ⟨p, hp, e1, e2, e3⟩ := hse e hem
    have hpD : p.1 ∉ D := fun hd => by rw [e3.2 hd] at hes; cases hes
    have hr1 : w1.heap[r]? = some (.mapIter (some b) si se c0) := by rcases hal with rfl | rfl <;> exact hr
    have hb1 : w1.heap[b]? = some (.map es cl) := by rcases hal with rfl | rfl <;> exact hb
    have hset := MapKept.heap_set (o' := .mapIter (some b) si (se.push e.born) cl) hr1
    have hb' : (setBlock w1 r (.mapIter (some b) si (se.push e.born) cl)).heap[b]? = some (.map es cl) := (hset.2 b (fun q => hne q.symm)).trans hb1
    have htouch : Touch (· = r) w (setBlock w1 r (.mapIter (some b) si (se.push e.born) cl)) := by
      rcases hal with rfl | rfl <;> exact ⟨rfl, rfl, rfl, by simp [setBlock], fun j _ hj => hset.2 j hj⟩
    have hborn := hst.2.1
    simp only [execOp, hop, ei, Sem.run_bind, Result.andThen_ok, hrun, Sem.run_pure]
    rw [e1, e2]
    refine hk _ _ (hMore p _ hp hpD ⟨⟨es, cl, si, se.push e.born, cl, hb', hkk, hv, hst, hset.1, hold, hsk, hsk, fun x hx => ?_⟩, h.nd, hne⟩ htouch ?_ ?_)
    · obtain ⟨q, hq, f1, f2, f3⟩ := hse x hx
      refine ⟨q, hq, f1, f2, ?_⟩
      rw [contains_push, Bool.or_eq_true, f3, List.mem_cons, beq_iff_eq]
      constructor
      · rintro (h1 | h1)
        · exact .inr h1
        · have : x = e := born_inj hborn hx hem h1
          subst this
          exact .inl (K.inj _ _ (f1.symm.trans e1))
      · rintro (h1 | h1)
        · right
          have hke : x.key = e.key := by rw [f1, e1, h1]
          have hpw := ((MapKept.stamped_iff es cl).1 hst).2.2
          exact congrArg MapEntry.born (entry_eq_of_key hpw hx hem hke)
        · exact .inl h1
    · unfold World.rangeLeft
      rw [hb', show (setBlock w1 r (.mapIter (some b) si (se.push e.born) cl)).heap[r]? = some (.mapIter (some b) si (se.push e.born) cl) from hset.1, hb, hr]
      exact left_shrinks es se e he
    · have := run_entry_at (P := P) _ r b si se es cl e hset.1 hb' hem hborn
      rwa [e1, e2] at this
end
end Go.Proofs.Ytngljhpplmbglaa

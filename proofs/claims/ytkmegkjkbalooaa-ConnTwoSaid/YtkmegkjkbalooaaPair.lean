/-
  Map keys that are arrays of two integers.
-/
import Derived.Test.YtkmegkjkbalooaaMap
import Derived.ChangeKeysEq
namespace Go.Proofs.Ytkmegkjkbalooaa
open Go.RowKit

section
variable {P : Program} {t e : TypeId} {k : IntKind} {i : TypeInfo}
def pairV (k : IntKind) (p : Int × Int) : Value := .agg #[.int k p.1, .int k p.2]

theorem run_isAgg_int (w : World) (he : P.underlying e = some (.int k)) : (isAgg e).run P w = .ok false w := by
  unfold isAgg
  rw [Sem.run_bind, run_underlying he w]
  rfl
theorem run_part_pair (w : World) (he : P.underlying e = some (.int k)) (xs : Array Value) (o : Nat) (v : Value) (h : xs[o]? = some v) : (part e xs o).run P w = .ok v w := by
  simp [part, run_isAgg_int w he, h]
theorem run_check_pair' (w : World) (n : Nat) (hu : P.underlying t = some (.array 2 e)) (he : P.underlying e = some (.int k)) (hi : P.info? e = some i) (hs : i.size = 1) (em : Bool) (p : Int × Int) :
    (Instr.checkKey em (n + 1 + 1) t (pairV k p)).run P w = .ok () w := by
  have h0 : ∀ x, (Instr.checkKey em (n + 1) e (.int k x)).run P w = .ok () w := fun x => MapKept.run_checkKey he (by simp [MapKept.IsKey]) em n
  have p0 : (part e #[.int k p.1, .int k p.2] 0).run P w = .ok (.int k p.1) w := run_part_pair w he _ _ _ rfl
  have p1 : (part e #[.int k p.1, .int k p.2] 1).run P w = .ok (.int k p.2) w := run_part_pair w he _ _ _ rfl
  have hsz : (sizeOf e).run P w = .ok 1 w := by simp [sizeOf, typeInfo, hi, hs]
  unfold pairV
  generalize n + 1 = m at *
  simp only [Instr.checkKey, Sem.run_bind, run_underlying hu, Result.andThen_ok]
  simp only [Std.Legacy.Range.forIn_eq_forIn_range', Std.Legacy.Range.size, Nat.sub_zero, Nat.add_one_sub_one, Nat.div_one, Nat.reduceAdd, Nat.reduceSub]
  rw [show List.range' 0 2 = [0, 1] from rfl]
  simp only [List.forIn_cons, List.forIn_nil, Sem.run_bind, hsz, Result.andThen_ok, Nat.zero_mul, Nat.one_mul, p0, p1, h0, Sem.run_pure]
theorem run_check_pair (w : World) (hu : P.underlying t = some (.array 2 e)) (he : P.underlying e = some (.int k)) (hi : P.info? e = some i) (hs : i.size = 1) (em : Bool) (p : Int × Int) :
    (Instr.checkKey em 10000 t (pairV k p)).run P w = .ok () w := run_check_pair' w 9998 hu he hi hs em p
theorem run_equal_pair' (w : World) (n : Nat) (hu : P.underlying t = some (.array 2 e)) (he : P.underlying e = some (.int k)) (hi : P.info? e = some i) (hs : i.size = 1) (p q : Int × Int) :
    (Op.equalIn (n + 1 + 1) t (pairV k p) (pairV k q)).run P w = .ok (decide (p = q)) w := by
  have hc : P.cellsOf e = 1 := by unfold Program.cellsOf; rw [hi]; simpa using hs
  have p0 : ∀ w x y, (part e #[.int k x, .int k y] 0).run P w = .ok (.int k x) w := fun w x y => run_part_pair w he _ _ _ rfl
  have p1 : ∀ w x y, (part e #[.int k x, .int k y] 1).run P w = .ok (.int k y) w := fun w x y => run_part_pair w he _ _ _ rfl
  have heq : ∀ a b w, (Op.equalIn (n + 1) e (.int k a) (.int k b)).run P w = .ok (a == b) w := fun a b w => run_equalIn_int w n e k k a b he
  unfold pairV
  rw [run_equalIn_array w (n + 1) _ _ hu hi, hc]
  rw [show List.range 2 = [0, 1] from rfl]
  simp only [Op.eqItems, Sem.run_bind, Nat.zero_mul, Nat.one_mul, p0, p1, heq, Result.andThen_ok]
  obtain ⟨a, b⟩ := p
  obtain ⟨c, d⟩ := q
  by_cases h1 : a = c
  · subst h1
    by_cases h2 : b = d
    · subst h2; simp [p1, heq]
    · have e2 : (b == d) = false := by simpa using h2
      simp [p1, heq, e2, h2]
  · have e1 : (a == c) = false := by simpa using h1
    simp [e1, h1]
theorem run_equal_pair (w : World) (hu : P.underlying t = some (.array 2 e)) (he : P.underlying e = some (.int k)) (hi : P.info? e = some i) (hs : i.size = 1) (p q : Int × Int) :
    (Op.equal t (pairV k p) (pairV k q)).run P w = .ok (decide (p = q)) w := run_equal_pair' w 9998 hu he hi hs p q

/-- Keys that are arrays of two integers. -/
def KT.pair (t e : TypeId) (k : IntKind) (hu : P.underlying t = some (.array 2 e)) (he : P.underlying e = some (.int k)) (hi : ∃ i, P.info? e = some i ∧ i.size = 1) : KT P (Int × Int) where
  t := t
  enc := pairV k
  inj := fun a b h => by
    unfold pairV at h
    simp at h
    exact Prod.ext h.1 h.2
  check := fun em a w => by obtain ⟨i, hi, hs⟩ := hi; exact run_check_pair w hu he hi hs em a
  find := by
    intro a l ks w hl
    obtain ⟨i, hi, hs⟩ := hi
    have hgen : ∀ (l : List MapEntry) (ks : List (Int × Int)) (j : Nat), l.map (·.key) = ks.map (pairV k) → (Instr.findAsking t (pairV k a) l j).run P w = .ok (fnd a ks (l.map (·.val)) j) w := by
      intro l
      induction l with
      | nil => intro ks j h; cases ks with
        | nil => rfl
        | cons k ks => simp at h
      | cons e l ih => intro ks j h; cases ks with
        | nil => simp at h
        | cons k0 ks =>
          simp only [List.map_cons, List.cons.injEq] at h
          simp only [Instr.findAsking, h.1, Sem.run_bind, run_equal_pair w hu he hi hs, Result.andThen_ok, List.map_cons, fnd]
          by_cases e0 : a = k0
          · simp [e0]
          · simp only [e0, decide_false, Bool.false_eq_true, if_false]
            exact ih ks (j + 1) h.2
    simp only [Instr.findKey, Sem.run_bind, run_underlying hu, Result.andThen_ok]
    cases l with
    | nil => cases ks with
      | nil => rfl
      | cons k ks => simp at hl
    | cons e l =>
      have hn : Instr.findNow (.array 2 ‹TypeId›) (pairV k a) (e :: l) 0 = none := by
        simp [Instr.findNow, Instr.sameNow, pairV]
      rw [hn]
      exact hgen (e :: l) ks 0 hl
  bits := fun a => by
    unfold pairV
    simp [Instr.sameBits]
end
end Go.Proofs.Ytkmegkjkbalooaa

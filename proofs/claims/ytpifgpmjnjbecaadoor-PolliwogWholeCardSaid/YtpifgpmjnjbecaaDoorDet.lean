/-
  A region that draws its order and whose every operation has one value, whatever the order: each operation is walked once, over an act that is a variable. No program is named.
-/
import Derived.Test.YtpifgpmjnjbecaaDoorDag
namespace Go.Proofs.YtpifgpmjnjbecaaDoor
open Go

namespace Dag
/-- Operation i of l waits for operation k. -/
def has (l : List Oper) (i k : Nat) : Bool := ((l[i]?).map fun o => o.after.any fun e => e.on == k && Region.binds .any e).getD false
/-- What is done, with what it waited for. -/
def Cl (l : List Oper) (d : Nat → Bool) : Prop := ∀ i k, has l i k = true → d i = true → d k = true
theorem has_pre {l : List Oper} {i k : Nat} {o : Oper} {d : Nat → Bool} (ho : l[i]? = some o) (hp : ∀ e ∈ o.after, Region.binds .any e = true → d e.on = true) (h : has l i k = true) : d k = true := by
  unfold has at h
  rw [ho] at h
  simp only [Option.map_some, Option.getD_some] at h
  obtain ⟨j, hj, h⟩ := Array.any_eq_true.1 h
  have he : o.after[j] ∈ o.after := Array.getElem_mem hj
  generalize o.after[j] = e at h he
  rw [Bool.and_eq_true] at h
  have h1 : e.on = k := by simpa using h.1
  rw [← h1]
  exact hp e he h.2
theorem Cl.step {l : List Oper} {d : Nat → Bool} {i : Nat} (h : Cl l d) (hp : ∀ k, has l i k = true → d k = true) : Cl l (upd d i true) := by
  intro j k hk hj
  have hdk : d k = true := by
    by_cases e : j = i
    · subst e
      exact hp k hk
    · rw [upd_far _ _ e] at hj
      exact h j k hk hj
  by_cases e : k = i
  · subst e
    exact upd_same _ _ _
  · rw [upd_far _ _ e]
    exact hdk
/-- What one operation does. -/
inductive Out (P : Program) (o : Oper) (A : Act) (w : World) (v : Value) (w' : World) : Prop where
  | value (s : Nat) (hd : o.dst = some s) (h : (execOp A.eval o).run P w = .ok (.value v) w')
  | skip (hd : o.dst = none) (h : (execOp A.eval o).run P w = .ok .skip w')
  | call (s : Nat) (hd : o.dst = some s) (F : FuncId) (args : Array Value) (h : (execOp A.eval o).run P w = .ok (.enter F args) w) (hc : Calls P F args w fun e w2 => e = .returned v ∧ w' = w2)
theorem Out.wp {P : Program} {o : Oper} {A : Act} {w : World} {v : Value} {w' : World} (h : Out P o A w v w') {K : Act → World → Prop} {Q : Exit → Act → World → Prop} (hk : ∀ s, o.dst = some s → K (A.put (some s) v) w') (hn : o.dst = none → K A w') : Oper.wp P o A w K Q := by
  cases h with
  | value s hd h =>
    unfold Oper.wp
    rw [h, Oper.upon_value, hd]
    exact hk s hd
  | skip hd h =>
    unfold Oper.wp
    rw [h, Oper.upon_skip, hd]
    exact hn hd
  | call s hd F args h hc =>
    unfold Oper.wp
    rw [h, Oper.upon_enter]
    refine hc.mono ?_
    rintro e w2 ⟨rfl, rfl⟩
    show K (A.put o.dst v) w'
    rw [hd]
    exact hk s hd
structure DJ (l : List Oper) (n : Nat) (slot : Nat → Nat) (val : Nat → Value) (WD : (Nat → Bool) → World) (d : Nat → Bool) (f : Nat → Value) (w : World) : Prop where
  cl : Cl l d
  v : ∀ j, j < n → d j = true → f (slot j) = val j
  w : w = WD d
/-- An act in the middle: what is done has its value, the rest is as it was. -/
structure Mid (a : Act) (n : Nat) (D : List Nat) (slot : Nat → Nat) (val : Nat → Value) (d : Nat → Bool) (A : Act) : Prop where
  got : ∀ j, j < n → d j = true → slot j ∈ D → slot j < a.tmps.size → A.eval (.tmp (slot j)) = val j
  old : ∀ k, k ∉ D → A.eval (.tmp k) = a.eval (.tmp k)
  cst : ∀ x, (∀ k, x ≠ .tmp k) → A.eval x = a.eval x
theorem mid_of {l : List Oper} {a : Act} {n : Nat} {D : List Nat} {slot : Nat → Nat} {val : Nat → Value} {WD : (Nat → Bool) → World} {d : Nat → Bool} {f : Nat → Value} {w : World} (h : DJ l n slot val WD d f w) : Mid a n D slot val d (actOf a D f) := by
  refine ⟨fun j hj hd hm hs => (actOf_eval hm hs).trans (h.v j hj hd), fun k hk => ?_, fun x hx => ?_⟩
  · show (actOf a D f).tmps.getD k undef = a.tmps.getD k undef
    rw [Array.getD_eq_getD_getElem?, actOf_get, if_neg (fun h => hk h.1), ← Array.getD_eq_getD_getElem?]
  · cases x with
    | tmp k => exact absurd rfl (hx k)
    | _ => rfl
def DetStep (P : Program) (l : List Oper) (a : Act) (n : Nat) (D : List Nat) (slot : Nat → Nat) (val : Nat → Value) (WD : (Nat → Bool) → World) (i : Nat) (o : Oper) : Prop :=
  o.guard = none ∧ (∀ s, o.dst = some s → slot i = s ∧ s ∈ D) ∧ ∀ (d : Nat → Bool) (A : Act), d i = false → (∀ k, has l i k = true → d k = true) → Cl l d → Mid a n D slot val d A → Out P o A (WD d) (val i) (WD (upd d i true))
theorem actOf_congr {f g : Nat → Value} : ∀ (D : List Nat) (a : Act), (∀ k ∈ D, f k = g k) → actOf a D f = actOf a D g
  | [], _, _ => rfl
  | k :: D, a, h => by
    have e1 : actOf a (k :: D) f = actOf (a.put (some k) (f k)) D f := rfl
    have e2 : actOf a (k :: D) g = actOf (a.put (some k) (g k)) D g := rfl
    rw [e1, e2, h k (List.mem_cons_self ..)]
    exact actOf_congr D _ fun k hk => h k (List.mem_cons_of_mem _ hk)
theorem actOf_far {f : Nat → Value} {a : Act} {D : List Nat} {i : Nat} (v : Value) (h : i ∉ D) : actOf a D (upd f i v) = actOf a D f :=
  actOf_congr D a fun k hk => upd_far _ _ (fun e => h (e ▸ hk))
theorem det {P : Program} {Q : Exit → Act → World → Prop} {id : Nat} {a : Act} {w wE : World} {l : List Oper} (hm : P.follows .mixedOrders = true) (n : Nat) (D : List Nat) (slot : Nat → Nat) (val g : Nat → Value) (WD : (Nat → Bool) → World)
    (hn : l.length = n) (hinj : ∀ i j, i < n → j < n → slot i = slot j → i = j) (hout : ∀ i, i < n → ((l[i]?).map (·.dst)) = some none → slot i ∉ D)
    (h0 : WD (fun _ => false) = w.drew) (htop : topB l.toArray = true)
    (hs : Steps (DetStep P l a n D slot val WD) 0 l)
    (hE : ∀ d : Nat → Bool, (∀ i, i < n → d i = true) → WD d = wE) (hg : ∀ k ∈ D, ∃ i, i < n ∧ slot i = k ∧ g k = val i)
    (hend : Q .normal (actOf a D g) wE) : (Code.region id l.toArray true).wp P Q a w := by
  refine wp_region_dag hm D (DJ l n slot val WD) (fun k => a.eval (.tmp k)) ?_ ⟨fun _ _ _ h => (by cases h), fun _ _ h => (by cases h), h0.symm⟩ (top_of htop) ?_ ?_
  · have key : ∀ (D : List Nat), actOf a D (fun k => a.eval (.tmp k)) = a := by
      intro D
      induction D with
      | nil => rfl
      | cons k D ih =>
        have e : actOf a (k :: D) (fun k => a.eval (.tmp k)) = actOf (a.put (some k) (a.eval (.tmp k))) D (fun k => a.eval (.tmp k)) := rfl
        have e2 : a.put (some k) (a.eval (.tmp k)) = a := by
          show ({ a with tmps := a.tmps.setIfInBounds k (a.tmps.getD k undef) } : Act) = a
          have : a.tmps.setIfInBounds k (a.tmps.getD k undef) = a.tmps := by
            refine Array.ext_getElem? fun j => ?_
            rw [Array.getElem?_setIfInBounds]
            by_cases e : k = j
            · subst e
              rw [if_pos rfl]
              by_cases hk : k < a.tmps.size
              · rw [if_pos hk, Array.getD_eq_getD_getElem?, Array.getElem?_eq_getElem hk]
                rfl
              · rw [if_neg hk]
                simp [Nat.not_lt.1 hk]
            · rw [if_neg e]
          rw [this]
        rw [e, e2]
        exact ih
    exact key D
  · intro i o d f w' ho hi hp hJ K' hK
    have ho' : l[i]? = some o := by simpa using ho
    have hin : i < n := by
      rw [← hn]
      exact (List.getElem?_eq_some_iff.1 ho').1
    have hst := hs.at_ i o ho'
    rw [Nat.zero_add] at hst
    obtain ⟨hgd, hdst, hst⟩ := hst
    have hpre : ∀ k, has l i k = true → d k = true := fun k hk => has_pre ho' hp hk
    have hO := hst d (actOf a D f) hi hpre hJ.cl (mid_of hJ)
    have hnext : DJ l n slot val WD (upd d i true) (upd f (slot i) (val i)) (WD (upd d i true)) := by
      refine ⟨hJ.cl.step hpre, fun j hj hdj => ?_, rfl⟩
      by_cases e : j = i
      · subst e
        exact upd_same _ _ _
      · rw [upd_far _ _ (fun h => e (hinj j i hj hin h))]
        rw [upd_far _ _ e] at hdj
        exact hJ.v j hj hdj
    have hw : Region.wanted o (yielded l.toArray (actOf a D f).tmps) = true := by
      simp [Region.wanted, hgd]
    rw [if_pos hw]
    rw [hJ.w]
    refine hO.wp (fun s hs => ?_) (fun hs => ?_)
    · obtain ⟨e1, e2⟩ := hdst s hs
      subst e1
      rw [actOf_put e2]
      exact hK _ _ hnext
    · have := hK _ _ hnext
      rw [actOf_far _ (hout i hin (by rw [ho']; simp [hs]))] at this
      exact this
  · intro d f w' hd hJ
    have hd' : ∀ i, i < n → d i = true := fun i hi => hd i (by simpa [hn] using hi)
    have e : actOf a D f = actOf a D g := actOf_congr D a fun k hk => by
      obtain ⟨i, hi, e1, e2⟩ := hg k hk
      rw [e2, ← e1]
      exact hJ.v i hi (hd' i hi)
    rw [e, hJ.w, hE d hd']
    exact hend
end Dag
end Go.Proofs.YtpifgpmjnjbecaaDoor

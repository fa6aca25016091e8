/-
  A region that draws its order, whose operations only read or call what only reads, but for the last one, which waits for all of them: one walk in the order of the text serves every order. Over any program.
-/
import Derived.Deep.Quiet
import Derived.Deep.QuietTactic
import Derived.Tactics
namespace Go.Proofs.YtipaobpmojahaaaGreat

def blankOp (o : Oper) : Oper := { o with op := .assign (.const undef), guard := none }

section
variable {P : Program} {md : Region.Mode} {ops ops' : Array Oper} {n : Nat} {s : Oper} {C : World -> Prop}

structure Twin (ops ops' : Array Oper) (n : Nat) (s : Oper) : Prop where
 size : ops.size = n + 1
 size' : ops'.size = n + 1
 same : ∀ i, i < n -> ops'[i]? = ops[i]?
 last : ops[n]? = some s
 last' : ops'[n]? = some (blankOp s)
 dst : s.dst = none

theorem Twin.after (h : Twin ops ops' n s) (i : Nat) : (ops'[i]?).map (·.after) = (ops[i]?).map (·.after) := by
 rcases Nat.lt_trichotomy i n with hi | rfl | hi
 ·rw [h.same i hi]
 ·rw [h.last, h.last']; rfl
 ·rw [Array.getElem?_eq_none (by rw [h.size']; omega), Array.getElem?_eq_none (by rw [h.size]; omega)]
theorem Twin.dsts (h : Twin ops ops' n s) (i : Nat) : (ops'[i]?).bind (·.dst) = (ops[i]?).bind (·.dst) := by
 rcases Nat.lt_trichotomy i n with hi | rfl | hi
 ·rw [h.same i hi]
 ·rw [h.last, h.last']; rfl
 ·rw [Array.getElem?_eq_none (by rw [h.size']; omega), Array.getElem?_eq_none (by rw [h.size]; omega)]
theorem Twin.ready (h : Twin ops ops' n s) (listed : Array Bool) : Region.ready md ops' listed = Region.ready md ops listed := by
 unfold Region.ready
 rw [h.size, h.size']
 refine List.filter_congr fun i _ => ?_
 have := h.after i
 cases h1 : ops'[i]? with
 |none => cases h2 : ops[i]? with
  |none => rfl
  |some o => rw [h1, h2] at this; cases this
 |some o' => cases h2 : ops[i]? with
  |none => rw [h1, h2] at this; cases this
  |some o =>
   rw [h1, h2] at this
   simp only [Option.map_some, Option.some.injEq] at this
   simp only [Option.map_some, this]
theorem Twin.yielded (h : Twin ops ops' n s) (tmps : Array Value) : yielded ops' tmps = yielded ops tmps := by
 funext j
 unfold Go.yielded
 rw [h.dsts j]

def descB (md : Region.Mode) (ops : Array Oper) : Bool := (List.range ops.size).all fun i => ((ops[i]?).map fun o => o.after.all fun e => !Region.binds md e || decide (e.on < i)).getD true
def sinkB' (md : Region.Mode) (ops : Array Oper) (n : Nat) : Bool :=
 (List.range n).all fun i => (List.range (n + 1)).any fun j => decide (i < j) && ((ops[j]?).map fun o => o.after.any fun e => Region.binds md e && e.on == i).getD false
def Closed (md : Region.Mode) (ops : Array Oper) (listed : Array Bool) : Prop := ∀ j oj, ops[j]? = some oj -> listed.getD j false = true -> ∀ e ∈ oj.after, Region.binds md e = true -> listed.getD e.on false = true
theorem Closed.set {i : Nat} {listed : Array Bool} (inv : Closed md ops listed) (hi : i ∈ Region.ready md ops listed) : Closed md ops (listed.setIfInBounds i true) := by
 obtain ⟨_, oi, hoi, hall⟩ := mem_ready.1 hi
 intro j oj hj hl e he hb
 by_cases hij : i = j
 ·subst hij
  have : oj = oi := Option.some.inj (hj.symm.trans hoi)
  subst this
  exact getD_set_true (hall e he hb)
 ·rw [getD_set_ne false hij] at hl
  exact getD_set_true (inv j oj hj hl e he hb)

theorem ready_ne {listed : Array Bool} (hd : descB md ops = true) (hs : listed.size = ops.size) (i : Nat) (hi : i < ops.size) (hu : listed.getD i true = false) : Region.ready md ops listed ≠ [] := by
 induction i using Nat.strongRecOn with
 |_ i ih =>
  by_cases hall : ∀ j, j < i -> listed.getD j false = true
  ·intro h0
   have hm : i ∈ Region.ready md ops listed := by
    obtain ⟨o, ho⟩ : ∃ o, ops[i]? = some o := ⟨_, Array.getElem?_eq_getElem hi⟩
    refine mem_ready.2 ⟨hu, o, ho, fun e he hb => hall _ ?_⟩
    have h1 := List.all_eq_true.1 hd i (List.mem_range.2 hi)
    rw [ho] at h1
    simp only [Option.map_some, Option.getD_some] at h1
    have h2 := Array.all_eq_true_iff_forall_mem.1 h1 e he
    simp only [hb, Bool.not_true, Bool.false_or, decide_eq_true_eq] at h2
    exact h2
   rw [h0] at hm
   cases hm
  ·have : ∃ j, j < i ∧ ¬ listed.getD j false = true := by
    refine Classical.byContradiction fun hn => hall fun j hj => ?_
    exact Classical.byContradiction fun hf => hn ⟨j, hj, hf⟩
   obtain ⟨j, hj, hf⟩ := this
   have hjs : j < listed.size := by omega
   refine ih j hj (by omega) ?_
   simp [hjs] at hf ⊢
   exact hf

theorem last_all {listed : Array Bool} (hl : sinkB' md ops n = true) (ho : ops[n]? = some s) (hcl : Closed md ops listed) (hr : n ∈ Region.ready md ops listed) : ∀ (d i : Nat), n - i = d -> i < n -> listed.getD i false = true := by
 intro d
 induction d using Nat.strongRecOn with
 |_ d ih =>
  intro i hd hi
  obtain ⟨_, o, ho', hall⟩ := mem_ready.1 hr
  obtain rfl : s = o := Option.some.inj (ho.symm.trans ho')
  have h1 := List.all_eq_true.1 hl i (List.mem_range.2 hi)
  obtain ⟨j, hj, hj2⟩ := List.any_eq_true.1 h1
  simp only [Bool.and_eq_true, decide_eq_true_eq] at hj2
  obtain ⟨hij, hj3⟩ := hj2
  have hjn := List.mem_range.1 hj
  cases hoj : ops[j]? with
  |none => rw [hoj] at hj3; simp at hj3
  |some oj =>
   rw [hoj] at hj3
   simp only [Option.map_some, Option.getD_some] at hj3
   obtain ⟨e, he, hb⟩ := Array.any_eq_true'.1 hj3
   simp only [Bool.and_eq_true, beq_iff_eq] at hb
   rw [<- hb.2]
   by_cases hjn' : j = n
   ·subst hjn'
    obtain rfl : oj = s := Option.some.inj (hoj.symm.trans ho)
    exact hall e he hb.1
   ·exact hcl j oj hoj (ih (n - j) (by omega) j rfl (by omega)) e he hb.1

theorem ready_nil {listed : Array Bool} (hs : ∀ i, i < ops.size -> listed.getD i false = true) : Region.ready md ops listed = [] := by
 refine List.eq_nil_iff_forall_not_mem.2 fun i hi => ?_
 obtain ⟨hu, o, ho, _⟩ := mem_ready.1 hi
 have hlt : i < ops.size := (Array.getElem?_eq_some_iff.1 ho).1
 have h1 := hs i hlt
 rcases Nat.lt_or_ge i listed.size with h | h
 ·simp [h] at h1 hu; rw [h1] at hu; cases hu
 ·simp [Array.getElem?_eq_none h] at h1

theorem wpAny_twin {Q' : Exit -> Act -> World -> Prop} (ht : Twin ops ops' n s) (hd : descB md ops = true) (hl : sinkB' md ops n = true) :
  ∀ (fuel : Nat) (listed : Array Bool) (a : Act) (w : World), C w -> listed.size = n + 1 -> Closed md ops listed -> listed.getD n true = false →
   wpAnyQ P md ops' C (fun a' => ∀ w', C w' -> wpList P ops Q' [s] a' w') fuel listed a -> wpAny P md ops Q' fuel listed a w := by
 intro fuel
 induction fuel with
 |zero =>
  intro listed a w hC hs hcl hu h
  have := ready_ne (md := md) (ops := ops) hd (by rw [hs, ht.size]) n (by rw [ht.size]; omega) hu
  rw [<- ht.ready] at this
  exact absurd h.1 this
 |succ fuel ih =>
  intro listed a w hC hs hcl hu h
  have hne := ready_ne (md := md) (ops := ops) hd (by rw [hs, ht.size]) n (by rw [ht.size]; omega) hu
  refine ⟨fun h0 => absurd h0 hne, fun i hi => ?_⟩
  have hi' : i ∈ Region.ready md ops' listed := by rw [ht.ready]; exact hi
  have hq := h.2 i hi'
  obtain ⟨hui, oi, hoi, _⟩ := mem_ready.1 hi
  have hilt : i < n + 1 := by have := (Array.getElem?_eq_some_iff.1 hoi).1; rw [ht.size] at this; exact this
  by_cases hin : i = n
  ·subst hin
   have hall : ∀ j, j < i -> listed.getD j false = true := fun j hj => last_all hl ht.last hcl hi _ j rfl hj
   have hset : ∀ j, j < ops.size -> (listed.setIfInBounds i true).getD j false = true := fun j hj => by
    by_cases hij : i = j
    ·subst hij
     simp [hs]
    ·rw [getD_set_ne false hij]
     exact hall j (by rw [ht.size] at hj; omega)
   have hnil : Region.ready md ops (listed.setIfInBounds i true) = [] := ready_nil hset
   have hnil' : Region.ready md ops' (listed.setIfInBounds i true) = [] := by rw [ht.ready]; exact hnil
   -- what the blank one leaves
   have hQ : ∀ w', C w' -> wpList P ops Q' [s] a w' := by
    unfold qOp at hq
    simp only [ht.last'] at hq
    have hw : Region.wanted (blankOp s) (yielded ops' a.tmps) = true := rfl
    rw [if_pos hw] at hq
    obtain ⟨v, _, hK⟩ := hq
    have hput : a.put (blankOp s).dst v = a := by show a.put s.dst v = a; rw [ht.dst]; rfl
    rw [hput] at hK
    cases fuel with
    |zero => exact hK.2
    |succ f => exact hK.1 hnil'
   have hstore := hQ w hC
   have hmono : ∀ a' w', Q' .normal a' w' -> wpAny P md ops Q' fuel (listed.setIfInBounds i true) a' w' := fun a' w' hq' => by
    cases fuel with
    |zero => exact ⟨hnil, hq'⟩
    |succ f => exact ⟨fun _ => hq', fun j hj => by rw [hnil] at hj; cases hj⟩
   unfold wpOp
   simp only [ht.last]
   unfold wpList at hstore
   by_cases hwn : Region.wanted s (yielded ops a.tmps) = true
   ·rw [if_pos hwn] at hstore ⊢
    rcases hstore with hstore | hstore
    ·exact .inl (Oper.wp_mono (fun a' w' h' => hmono a' w' h') hstore)
    ·exact .inr hstore
   ·rw [if_neg hwn] at hstore ⊢
    exact hmono _ _ hstore
  ·have hin' : i < n := by omega
   have hopi : ops'[i]? = some oi := by rw [ht.same i hin']; exact hoi
   unfold qOp at hq
   unfold wpOp
   simp only [hopi] at hq
   simp only [hoi]
   have hus : (listed.setIfInBounds i true).getD n true = false := by rw [getD_set_ne true hin]; exact hu
   rw [ht.yielded] at hq
   by_cases hwn : Region.wanted oi (yielded ops a.tmps) = true
   ·rw [if_pos hwn] at hq ⊢
    exact .inl (Oper.wp_of_quiet hC (fun a' w' hC' hK => ih _ a' w' hC' (by simpa using hs) (hcl.set hi) hus hK) hq)
   ·rw [if_neg hwn] at hq ⊢
    exact ih _ _ w hC (by simpa using hs) (hcl.set hi) hus hq

theorem wp_region_qtail {id : Nat} {Q' : Exit -> Act -> World -> Prop} {a : Act} {w : World} {l : List Oper} (n : Nat) (hm : P.follows .mixedOrders = true)
  (hB : Region.lexB .any (l.take n ++ (l.drop n).map blankOp).toArray = true) (hS : l.length = n + 1) (hd : descB .any l.toArray = true) (hl : (l[n]?.map fun s => sinkB' .any l.toArray n && s.dst.isNone) = some true)
  (h : wpQuiet P (l.take n ++ (l.drop n).map blankOp).toArray (fun w' => ∃ k, w' = w.drewN k) (fun a' => ∀ w', (∃ k, w' = w.drewN k) -> wpList P l.toArray Q' (l.drop n) a' w') (l.take n ++ (l.drop n).map blankOp) a) : (Code.region id l.toArray true).wp P Q' a w := by
 have hn : n < l.length := by omega
 have hls : l[n]? = some l[n] := List.getElem?_eq_getElem hn
 rw [hls] at hl
 simp only [Option.map_some, Option.some.injEq, Bool.and_eq_true, Option.isNone_iff_eq_none] at hl
 have hdrop : l.drop n = [l[n]] := by
  rw [List.drop_eq_getElem_cons hn, List.drop_eq_nil_of_le (by omega)]
 rw [hdrop] at hB h
 simp only [List.map_cons, List.map_nil] at hB h
 have ht : Twin l.toArray (l.take n ++ [blankOp l[n]]).toArray n l[n] := by
  refine ⟨by simp [hS], by simp; omega, fun i hi => ?_, by simp [hn], ?_, hl.2⟩
  ·have : i < l.length := by omega
   simp [List.getElem?_append_left (show i < (l.take n).length by simp; omega), hi]
  ·have e : (l.take n).length = n := by simp; omega
   have : (l.take n ++ [blankOp l[n]])[n]? = some (blankOp l[n]) := by
    rw [List.getElem?_append_right (by omega), e, Nat.sub_self]; rfl
   simpa using this
 simp only [Region.lexB, Bool.and_eq_true] at hB
 refine wp_region_any hm ?_
 have hq := wpAnyQ_lex (P := P) (C := fun w' => ∃ k, w' = w.drewN k) (md := .any) hB.1 (l.take n ++ [blankOp l[n]]) 0 (Array.replicate (l.take n ++ [blankOp l[n]]).toArray.size false) a (by simp) (by simpa using hB.2) h
 have hlen : (l.take n ++ [blankOp l[n]]).length = l.toArray.size := by simp; omega
 rw [hlen] at hq
 have hsz : (l.take n ++ [blankOp l[n]]).toArray.size = l.toArray.size := by simp; omega
 rw [hsz] at hq
 refine wpAny_twin (C := fun w' => ∃ k, w' = w.drewN k) ht hd hl.1 _ _ a _ ⟨1, rfl⟩ (by simp [hS]) (fun j oj _ hj => by
  rcases Nat.lt_or_ge j (Array.replicate l.toArray.size false).size with h' | h'
  ·rw [Array.getD_eq_getD_getElem?, Array.getElem?_eq_getElem h'] at hj
   simp at hj
  ·rw [Array.getD_eq_getD_getElem?, Array.getElem?_eq_none h'] at hj
   simp at hj) ?_ hq
 have : n < l.toArray.size := by simpa using hn
 simp [hn]
end
end Go.Proofs.YtipaobpmojahaaaGreat

/-
  A region that draws its order, whose last operation waits for all others and hands nothing back: the others alone, whatever their order, then the last one. Over any program.
-/
import Derived.Test.YtpjmgdoekeknjaaQTail
import Derived.Deep.RegionHeld3
namespace Go.Proofs.Ytpjmgdoekeknjaa

/-- What is asked behind the others: that the last one serves. -/
def TailQ (P : Program) (ops : Array Oper) (Q : Exit → Act → World → Prop) (s : Oper) : Exit → Act → World → Prop
  | .normal, a, w => wpList P ops Q [s] a w
  | .panic _, _, _ => False
  | e, a, w => Q e a w

section
variable {P : Program} {md : Region.Mode} {ops ops' : Array Oper} {n : Nat} {s : Oper} {Q : Exit → Act → World → Prop}

theorem TailQ.lets (h : LetsOut (TailQ P ops Q s)) : LetsOut Q := h

theorem Oper.wp_tail {o : Oper} {a : Act} {w : World} {K K' : Act → World → Prop} (h : ∀ a w, K a w → K' a w) (hh : o.wp P a w K (TailQ P ops Q s)) : o.wp P a w K' Q := by
  unfold Oper.wp at *
  generalize (execOp a.eval o).run P w = r at *
  cases r with
  | ok n w' =>
    cases n <;> simp only [Oper.upon] at hh ⊢
    case value => exact h _ _ hh
    case skip => exact h _ _ hh
    case defer => exact h _ _ hh
    case enter f args =>
      refine Calls.mono hh fun e w'' he => ?_
      cases e with
      | returned u => exact h _ _ he
      | panicked c => exact (he : False).elim
      | outgrown => exact TailQ.lets he
    case row row args => exact Rows.mono hh fun u w'' he => h _ _ he
  | halt x w' =>
    cases x <;> simp only [Oper.upon] at hh ⊢
    case panic u => exact (hh : False).elim

theorem wpAny_tail (ht : Twin ops ops' n s) (hd : descB md ops = true) (hl : sinkB' md ops n = true) :
    ∀ (fuel : Nat) (listed : Array Bool) (a : Act) (w : World), listed.size = n + 1 → Closed md ops listed → listed.getD n true = false →
      wpAny P md ops' (TailQ P ops Q s) fuel listed a w → wpAny P md ops Q fuel listed a w := by
  intro fuel
  induction fuel with
  | zero =>
    intro listed a w hs hcl hu h
    have := ready_ne (md := md) (ops := ops) hd (by rw [hs, ht.size]) n (by rw [ht.size]; omega) hu
    rw [← ht.ready] at this
    exact absurd h.1 this
  | succ fuel ih =>
    intro listed a w hs hcl hu h
    have hne := ready_ne (md := md) (ops := ops) hd (by rw [hs, ht.size]) n (by rw [ht.size]; omega) hu
    refine ⟨fun h0 => absurd h0 hne, fun i hi => ?_⟩
    have hi' : i ∈ Region.ready md ops' listed := by rw [ht.ready]; exact hi
    have hq := h.2 i hi'
    obtain ⟨hui, oi, hoi, _⟩ := mem_ready.1 hi
    have hilt : i < n + 1 := by have := (Array.getElem?_eq_some_iff.1 hoi).1; rw [ht.size] at this; exact this
    by_cases hin : i = n
    · subst hin
      have hall : ∀ j, j < i → listed.getD j false = true := fun j hj => last_all hl ht.last hcl hi _ j rfl hj
      have hset : ∀ j, j < ops.size → (listed.setIfInBounds i true).getD j false = true := fun j hj => by
        by_cases hij : i = j
        · subst hij
          simp [hs]
        · rw [getD_set_ne false hij]
          exact hall j (by rw [ht.size] at hj; omega)
      have hnil : Region.ready md ops (listed.setIfInBounds i true) = [] := ready_nil hset
      have hnil' : Region.ready md ops' (listed.setIfInBounds i true) = [] := by rw [ht.ready]; exact hnil
      have hstore : wpList P ops Q [s] a w := by
        unfold wpOp at hq
        simp only [ht.last'] at hq
        have hw : Region.wanted (blankOp s) (yielded ops' a.tmps) = true := rfl
        rw [if_pos hw] at hq
        have hput : a.put (blankOp s).dst undef = a := by show a.put s.dst undef = a; rw [ht.dst]; rfl
        rcases hq with hq | ⟨hq, hout⟩
        · have hq2 : wpAny P md ops' (TailQ P ops Q s) fuel (listed.setIfInBounds i true) (a.put (blankOp s).dst undef) w := hq
          rw [hput] at hq2
          cases fuel with
          | zero => exact hq2.2
          | succ f => exact hq2.1 hnil'
        · obtain ⟨h1, _⟩ := hq
          have h2 : (Sem.runT P (execOp a.eval (blankOp s)) w #[]).snd = #[] := rfl
          rw [h2] at h1
          cases h1 with | mk h1 => cases h1
      have hmono : ∀ a' w', Q .normal a' w' → wpAny P md ops Q fuel (listed.setIfInBounds i true) a' w' := fun a' w' hq' => by
        cases fuel with
        | zero => exact ⟨hnil, hq'⟩
        | succ f => exact ⟨fun _ => hq', fun j hj => by rw [hnil] at hj; cases hj⟩
      unfold wpOp
      simp only [ht.last]
      unfold wpList at hstore
      by_cases hwn : Region.wanted s (yielded ops a.tmps) = true
      · rw [if_pos hwn] at hstore ⊢
        rcases hstore with hstore | hstore
        · exact .inl (Oper.wp_mono (fun a' w' h' => hmono a' w' h') hstore)
        · exact .inr hstore
      · rw [if_neg hwn] at hstore ⊢
        exact hmono _ _ hstore
    · have hin' : i < n := by omega
      have hopi : ops'[i]? = some oi := by rw [ht.same i hin']; exact hoi
      unfold wpOp at hq ⊢
      simp only [hopi] at hq
      simp only [hoi]
      have hus : (listed.setIfInBounds i true).getD n true = false := by rw [getD_set_ne true hin]; exact hu
      rw [ht.yielded] at hq
      by_cases hwn : Region.wanted oi (yielded ops a.tmps) = true
      · rw [if_pos hwn] at hq ⊢
        rcases hq with hq | ⟨hq, hout⟩
        · exact .inl (Oper.wp_tail (fun a' w' hK => ih _ a' w' (by simpa using hs) (hcl.set hi) hus hK) hq)
        · exact .inr ⟨hq, TailQ.lets hout⟩
      · rw [if_neg hwn] at hq ⊢
        exact ih _ _ w (by simpa using hs) (hcl.set hi) hus hq

/-- The beginning: S is shown of the world behind the draw; the last operation stands apart. -/
theorem wp_region_htail {S : World → Prop} {id : Nat} {a : Act} {w : World} {l : List Oper} (n : Nat) (hm : P.follows .mixedOrders = true) (hS : l.length = n + 1) (hd : descB .any l.toArray = true)
    (hl : (l[n]?.map fun s => sinkB' .any l.toArray n && s.dst.isNone) = some true) (h0 : S w.drew)
    (h : ∀ Q0 : Exit → Act → World → Prop, Shut (∀ a w, wpList P l.toArray Q (l.drop n) a w → Q0 .normal a w) → (∀ d v c a w, Q0 (.panic c) (Act.put a d v) w → Q0 (.panic c) a w) → S w.drew →
      wpAnyH P .any (l.take n ++ (l.drop n).map blankOp).toArray Q0 S (n + 1) (Array.replicate (n + 1) false) a w.drew) : (Code.region id l.toArray true).wp P Q a w := by
  have hn : n < l.length := by omega
  have hls : l[n]? = some l[n] := List.getElem?_eq_getElem hn
  rw [hls] at hl
  simp only [Option.map_some, Option.some.injEq, Bool.and_eq_true, Option.isNone_iff_eq_none] at hl
  have hdrop : l.drop n = [l[n]] := by
    rw [List.drop_eq_getElem_cons hn, List.drop_eq_nil_of_le (by omega)]
  rw [hdrop] at h
  have h1 := wpAny_of_held _ _ _ _ (h (TailQ P l.toArray Q l[n]) (fun _ _ h => h) (fun _ _ _ _ _ h => h) h0)
  simp only [List.map_cons, List.map_nil] at h1
  have ht : Twin l.toArray (l.take n ++ [blankOp l[n]]).toArray n l[n] := by
    refine ⟨by simp [hS], by simp; omega, fun i hi => ?_, by simp [hn], ?_, hl.2⟩
    · have : i < l.length := by omega
      simp [List.getElem?_append_left (show i < (l.take n).length by simp; omega), hi]
    · have e : (l.take n).length = n := by simp; omega
      have : (l.take n ++ [blankOp l[n]])[n]? = some (blankOp l[n]) := by
        rw [List.getElem?_append_right (by omega), e, Nat.sub_self]; rfl
      simpa using this
  refine wp_region_any hm ?_
  have hsz : l.toArray.size = n + 1 := by simp [hS]
  rw [hsz]
  refine wpAny_tail ht hd hl.1 _ _ a _ (by simp) (fun j oj _ hj => by
    rcases Nat.lt_or_ge j (Array.replicate (n + 1) false).size with h' | h'
    · rw [Array.getD_eq_getD_getElem?, Array.getElem?_eq_getElem h'] at hj
      simp at hj
    · rw [Array.getD_eq_getD_getElem?, Array.getElem?_eq_none h'] at hj
      simp at hj) (by simp) h1
end
end Go.Proofs.Ytpjmgdoekeknjaa

/-
  Two ends of conn and their likeness go on alike, and end alike: Ready both, or Idle both. No program is named.
-/
import Derived.Test.YtkmegkjkbalooaaTwS
namespace Go.Proofs.Ytkmegkjkbalooaa
open Go.RowKit

namespace Tw
open Cn

/-- What was told holds what the flags say; so much was told at most. -/
structure Fl (N : Nat) (t : List Sig) (f : F) : Prop where
  f1 : f.f1 = true → ∃ s ∈ t, s.kind = 1
  f5 : f.f5 = true → ∃ s ∈ t, s.kind = 5
  f7 : f.f7 = true → ∃ s ∈ t, s.kind = 7
  n : t.length ≤ N + f.n

theorem any_kind {k : Int} {l l' : List Sig} (h : l.map Sig.kind = l'.map Sig.kind) (e : l'.any (fun s => s.kind == k) = true) : ∃ s ∈ l, s.kind = k := by
  obtain ⟨s, hs, he⟩ := List.any_eq_true.1 e
  have hm : k ∈ l'.map Sig.kind := List.mem_map.2 ⟨s, hs, by simpa using he⟩
  rw [← h] at hm
  obtain ⟨s', hs', he'⟩ := List.mem_map.1 hm
  exact ⟨s', hs', he'⟩
theorem Fl.add {N : Nat} {t : List Sig} {f : F} (h : Fl N t f) {l l' : List Sig} (e : l.map Sig.kind = l'.map Sig.kind) : Fl N (t ++ l) (f.add l') := by
  have hl : l.length = l'.length := by have := congrArg List.length e; simpa using this
  have up : ∀ {k : Int} {b : Bool} (_ : b = true → ∃ s ∈ t, s.kind = k), (b || l'.any (fun s => s.kind == k)) = true → ∃ s ∈ t ++ l, s.kind = k := by
    intro k b hb hx
    rw [Bool.or_eq_true] at hx
    rcases hx with hx | hx
    · obtain ⟨s, hs, he⟩ := hb hx
      exact ⟨s, List.mem_append_left _ hs, he⟩
    · obtain ⟨s, hs, he⟩ := any_kind e hx
      exact ⟨s, List.mem_append_right _ hs, he⟩
  refine ⟨up h.f1, up h.f5, up h.f7, ?_⟩
  have := h.n
  simp only [F.add, List.length_append]
  omega

/-- Two ends are as the likeness says, the one's numbers turned by a, the other's by b. -/
structure Rl (N : Nat) (cr cr' a b : Int) (p : P) (q : Q) : Prop where
  s0 : SS cr a b p.s0 (q.a.toS cr)
  s1 : SS cr' b a p.s1 (q.b.toS cr')
  w0 : p.w0.map ofP = q.wa.map (mapU b a)
  w1 : p.w1.map ofP = q.wb.map (mapU a b)
  d0 : ∀ u ∈ q.wa, D u.sq
  d1 : ∀ u ∈ q.wb, D u.sq
  g0 : Fl N p.t0 q.fa
  g1 : Fl N p.t1 q.fb

variable {N : Nat} {cr cr' a b : Int} {p : P} {q : Q}

theorem Rl.swap (h : Rl N cr cr' a b p q) : Rl N cr' cr b a p.swap q.swap := ⟨h.s1, h.s0, h.w1, h.w0, h.d1, h.d0, h.g1, h.g0⟩
theorem Rl.unswap (h : Rl N cr' cr b a p q) : Rl N cr cr' a b p.swap q.swap := h.swap
theorem SS.back {s t : S} (h : SS cr a b s t) : SS cr a b s ((ofS t).toS cr) := ⟨h.cx, rfl, h.state, h.ms, h.sq, h.peer, h.dsq, h.dpe⟩
theorem Rl.by_ (h : Rl N cr cr' a b p q) {y y' : SR} (hs : Sim cr a b y y') : Rl N cr cr' a b (p.by_ y) (q.by_ y') := by
  refine ⟨hs.ss.back, h.s1, h.w0, ?_, h.d0, ?_, h.g0.add hs.sigs, h.g1⟩
  · show (p.w1 ++ y.2.units).map ofP = (q.wb ++ y'.2.units.map ofP).map (mapU a b)
    rw [List.map_append, List.map_append, h.w1, hs.units, List.map_map]
    rfl
  · intro u hu
    rcases List.mem_append.1 hu with hu | hu
    · exact h.d1 u hu
    · obtain ⟨v, hv, rfl⟩ := List.mem_map.1 hu
      exact hs.dun v hv

/-! Answers. -/
theorem fold_stay {f : P → Sig → P} {p : P} : ∀ (l : List Sig), (∀ s ∈ l, f p s = p) → l.foldl f p = p
  | [], _ => rfl
  | s :: l, h => by
    rw [List.foldl_cons, h s (List.mem_cons_self ..)]
    exact fold_stay l (fun s hs => h s (List.mem_cons_of_mem _ hs))
theorem fold_once {f : P → Sig → P} {p p' : P} : ∀ (l : List Sig), (∀ s ∈ l, f p s = p ∨ f p s = p') → (∀ s ∈ l, f p' s = p') → (∃ s ∈ l, f p s = p') → l.foldl f p = p'
  | [], _, _, h => by obtain ⟨_, h, _⟩ := h; exact nomatch h
  | s :: l, h1, h2, h3 => by
    rw [List.foldl_cons]
    have t2 : ∀ s ∈ l, f p' s = p' := fun s hs => h2 s (List.mem_cons_of_mem _ hs)
    rcases h1 s (List.mem_cons_self ..) with e | e
    · obtain ⟨z, hz, ez⟩ := h3
      rcases List.mem_cons.1 hz with rfl | hz
      · rw [ez]
        exact fold_stay l t2
      · rw [e]
        exact fold_once l (fun s hs => h1 s (List.mem_cons_of_mem _ hs)) t2 ⟨z, hz, ez⟩
    · rw [e]
      exact fold_stay l t2
theorem may_tbl : (((List.range 10).all fun n => [2, 5, 6].all fun k => Ru.may ((n : Int) + 1) k == (ansK ((n : Int) + 1) == k)) = true) := by decide +kernel
theorem may_ans {st k : Int} (h0 : 1 ≤ st) (h1 : st ≤ 10) (hk : k = 2 ∨ k = 5 ∨ k = 6) : Ru.may st k = (ansK st == k) := by
  have h := List.all_eq_true.1 may_tbl (st - 1).toNat (List.mem_range.2 (by omega))
  have h := List.all_eq_true.1 h k (by rcases hk with rfl | rfl | rfl <;> simp)
  have e : (((st - 1).toNat : Nat) : Int) + 1 = st := by omega
  rw [e] at h
  simpa using h
theorem want_cases (k : Int) : want k = 0 ∨ want k = 2 ∨ want k = 5 ∨ want k = 6 := by
  unfold want
  split
  · exact .inr (.inl rfl)
  · split
    · exact .inr (.inr (.inl rfl))
    · split
      · exact .inr (.inr (.inr rfl))
      · exact .inl rfl
theorem askErr_ans {s : S} (h0 : 1 ≤ s.state) (h1 : s.state ≤ 10) {k : Int} (hk : k = 2 ∨ k = 5 ∨ k = 6) : askErr s k no = if ansK s.state = k then 0 else 8 := by
  have e1 : ¬ (k < 1 ∨ 6 < k) := by omega
  have e2 : bigAsk k no = false := by unfold bigAsk; rcases hk with rfl | rfl | rfl <;> rfl
  unfold askErr
  rw [if_neg e1, e2, may_ans h0 h1 hk]
  by_cases e : ansK s.state = k
  · simp [e]
  · simp [e]
theorem ask_ready {x : SR} {k : Int} (hk : k = 2 ∨ k = 5 ∨ k = 6) : (Cn.ask x k no).1.state = 10 := by
  unfold Cn.ask
  rcases hk with rfl | rfl | rfl
  · rfl
  · rfl
  · simp only [show ¬ ((6 : Int) = 1) by decide, show ¬ ((6 : Int) = 2) by decide, show ¬ ((6 : Int) = 3) by decide, show ¬ ((6 : Int) = 4) by decide, show ¬ ((6 : Int) = 5) by decide, if_false, if_true]
    split <;> rfl
theorem tellS_ten {p : P} (h : p.s0.state = 10) (s : Sig) : tellS false p s = p := by
  unfold tellS
  by_cases e : want s.kind = 0
  · rw [if_pos (.inl e)]
  · have hk : want s.kind = 2 ∨ want s.kind = 5 ∨ want s.kind = 6 := (want_cases s.kind).resolve_left e
    have e2 : ¬ ansK p.s0.state = want s.kind := by rw [h, show ansK 10 = 0 from rfl]; omega
    rw [if_neg (by simp [e]), askErr_ans (by omega) (by omega) hk, if_neg e2, if_neg (by decide)]
theorem ansK_cases (st : Int) : ansK st = 0 ∨ ansK st = 2 ∨ ansK st = 5 ∨ ansK st = 6 := by
  unfold ansK
  split
  · exact .inr (.inl rfl)
  · split
    · exact .inr (.inr (.inl rfl))
    · split
      · exact .inr (.inr (.inr rfl))
      · exact .inl rfl
theorem tellS_any {p : P} (h0 : 1 ≤ p.s0.state) (h1 : p.s0.state ≤ 10) (s : Sig) : tellS false p s = if want s.kind ≠ 0 ∧ ansK p.s0.state = want s.kind then p.by_ (askS p.s0 (ansK p.s0.state) no) else p := by
  unfold tellS
  by_cases e : want s.kind = 0
  · rw [if_pos (.inl e), if_neg (fun h => h.1 e)]
  · have hk : want s.kind = 2 ∨ want s.kind = 5 ∨ want s.kind = 6 := (want_cases s.kind).resolve_left e
    rw [if_neg (by simp [e]), askErr_ans h0 h1 hk]
    by_cases e2 : ansK p.s0.state = want s.kind
    · rw [if_pos e2, if_pos rfl, if_pos ⟨e, e2⟩, e2]
    · rw [if_neg e2, if_neg (by decide), if_neg (fun h => e2 h.2)]
theorem Rl.mid (h : Rl N cr cr' a b p q) (hq : okF q.a q.fa = true) (skip : Bool) : Rl N cr cr' a b (mid skip p) (if skip then q else answer cr q) := by
  unfold Tw.mid
  cases skip
  case true =>
    rw [fold_stay p.t0 (fun s _ => by unfold tellS; rw [if_pos (.inr rfl)])]
    exact h
  case false =>
    have hst : p.s0.state = q.a.st := h.s0.state
    simp only [okF, Bool.and_eq_true, Bool.or_eq_true, Bool.not_eq_true', decide_eq_true_eq, beq_eq_false_iff_ne, Bool.or_eq_false_iff] at hq
    obtain ⟨⟨⟨⟨q3, q6⟩, q8⟩, h0⟩, h1⟩ := hq
    rw [if_neg (by decide)]
    unfold answer
    by_cases e : ansK q.a.st = 0
    · rw [if_pos e, fold_stay p.t0 (fun s _ => by rw [tellS_any (by omega) (by omega), if_neg (by rw [hst, e]; intro h; exact h.1 h.2.symm)])]
      exact h
    · rw [if_neg e]
      have hk : ansK q.a.st = 2 ∨ ansK q.a.st = 5 ∨ ansK q.a.st = 6 := (ansK_cases _).resolve_left e
      have hsim : Sim cr a b (askS p.s0 (ansK q.a.st) no) (askS (q.a.toS cr) (ansK q.a.st) no) := h.s0.askS _ (fun h => by omega)
      have hex : ∃ s ∈ p.t0, want s.kind = ansK q.a.st := by
        by_cases e3 : q.a.st = 3
        · obtain ⟨s, hs, he⟩ := h.g0.f1 (q3.resolve_left (fun h => h e3))
          exact ⟨s, hs, by rw [he, e3]; rfl⟩
        · by_cases e6 : q.a.st = 6
          · obtain ⟨s, hs, he⟩ := h.g0.f5 (q6.resolve_left (fun h => h e6))
            exact ⟨s, hs, by rw [he, e6]; rfl⟩
          · by_cases e8 : q.a.st = 8 ∨ q.a.st = 9
            · obtain ⟨s, hs, he⟩ := h.g0.f7 (q8.resolve_left (fun h => by omega))
              refine ⟨s, hs, ?_⟩
              rw [he]
              unfold ansK
              rw [if_neg e3, if_neg e6, if_pos e8]
              rfl
            · exact absurd (by unfold ansK; rw [if_neg e3, if_neg e6, if_neg e8]) e
      have hten : (p.by_ (askS p.s0 (ansK q.a.st) no)).s0.state = 10 := by
        show (askS p.s0 (ansK q.a.st) no).1.state = 10
        unfold askS
        rw [askErr_ans (by omega) (by omega) hk, hst, if_pos rfl, if_pos rfl]
        exact ask_ready hk
      have ht : ∀ s : Sig, tellS false p s = if want s.kind ≠ 0 ∧ ansK q.a.st = want s.kind then p.by_ (askS p.s0 (ansK q.a.st) no) else p := by
        intro s
        have := tellS_any (p := p) (by omega) (by omega) s
        rw [hst] at this
        exact this
      rw [fold_once (p' := p.by_ (askS p.s0 (ansK q.a.st) no)) p.t0 (fun s _ => ?_) (fun s _ => tellS_ten hten s) ?_]
      · exact h.by_ hsim
      · obtain ⟨s, hs, he⟩ := hex
        exact ⟨s, hs, by rw [ht, if_pos ⟨by omega, he.symm⟩]⟩
      · rw [ht]
        split
        · exact .inr rfl
        · exact .inl rfl

/-! What comes. -/
theorem Rl.hears (ha : 0 ≤ a ∧ a < 256) (hb : 0 ≤ b ∧ b < 256) : ∀ (l : List Pd) (l' : List U) {p : P} {q : Q}, Rl N cr cr' a b p q → l.map ofP = l'.map (mapU b a) → (∀ u ∈ l', D u.sq) → Rl N cr cr' a b (l.foldl hearU p) (l'.foldl (hearQ cr) q)
  | [], [], _, _, h, _, _ => h
  | [], _ :: _, _, _, _, e, _ => by simp at e
  | _ :: _, [], _, _, _, e, _ => by simp at e
  | u :: l, v :: l', p, q, h, e, hd => by
    rw [List.map_cons, List.map_cons] at e
    injection e with e1 e2
    rw [List.foldl_cons, List.foldl_cons]
    refine Rl.hears ha hb l l' (h.by_ (h.s0.hearS ?_ ha hb)) e2 (fun u hu => hd u (List.mem_cons_of_mem _ hu))
    unfold ofP mapU at e1
    injection e1 with k1 k2 k3
    exact ⟨k1, k3, by rw [k2]; rfl, hd v (List.mem_cons_self ..)⟩
theorem Rl.rnd (h : Rl N cr cr' a b p q) (ha : 0 ≤ a ∧ a < 256) (hb : 0 ≤ b ∧ b < 256) (hq : okF q.a q.fa = true) (skip : Bool) : Rl N cr cr' a b (rnd skip p) (rndQ cr skip q) := by
  have hm := h.mid hq skip
  unfold Tw.rnd rndQ
  generalize Tw.mid skip p = p1 at *
  generalize (if skip = true then q else answer cr q) = q1 at *
  refine Rl.hears ha hb _ _ ?_ hm.w0 hm.d0
  exact ⟨hm.s0, hm.s1, rfl, hm.w1, (fun _ h => nomatch h), hm.d1, hm.g0, hm.g1⟩
theorem okQ_swap {q : Q} (h : okQ q = true) : okF q.b q.fb = true := by
  simp only [okQ, Bool.and_eq_true] at h
  exact h.1.1.1.1.2
theorem okQ_a {q : Q} (h : okQ q = true) : okF q.a q.fa = true := by
  simp only [okQ, Bool.and_eq_true] at h
  exact h.1.1.1.1.1
theorem Rl.rndN (h : Rl N 5 6 a b p q) (ha : 0 ≤ a ∧ a < 256) (hb : 0 ≤ b ∧ b < 256) (hq : okQ q = true) (n : Nat) (skip : Bool) : Rl N 5 6 a b (rndN n skip p) (rndQN n skip q) := by
  unfold Tw.rndN rndQN
  split
  · exact h.rnd ha hb (okQ_a hq) skip
  · exact (h.swap.rnd hb ha (okQ_swap hq) skip).unswap

/-! The likeness's rounds. -/
def runQ (sk : Nat → Bool) : Nat → Q → Q
  | 0, q => q
  | n + 1, q => rndQN n (sk n) (runQ sk n q)
theorem mem_ins {l : List Q} {q x : Q} : x ∈ ins l q ↔ x ∈ l ∨ x = q := by
  unfold ins
  split
  · rename_i h
    exact ⟨.inl, fun e => e.elim id (fun e => e ▸ h)⟩
  · rw [List.mem_cons]
    exact ⟨fun e => e.symm, fun e => e.symm⟩
theorem nexts_step {n : Nat} {acc : List Q} {q : Q} : ∀ x, (x ∈ acc ∨ x = rndQN n false q ∨ (n < 8 ∧ x = rndQN n true q)) → x ∈ (let acc := ins acc (rndQN n false q); if n < 8 then ins acc (rndQN n true q) else acc) := by
  intro x hx
  dsimp only
  split
  · rw [mem_ins, mem_ins]
    rcases hx with hx | hx | hx
    · exact .inl (.inl hx)
    · exact .inl (.inr hx)
    · exact .inr hx.2
  · rw [mem_ins]
    rcases hx with hx | hx | hx
    · exact .inl hx
    · exact .inr hx
    · exact absurd hx.1 (by assumption)
theorem nexts_acc {n : Nat} : ∀ (l : List Q) (acc : List Q) (x : Q), x ∈ acc → x ∈ l.foldl (fun acc q => let acc := ins acc (rndQN n false q); if n < 8 then ins acc (rndQN n true q) else acc) acc
  | [], _, _, h => h
  | _ :: l, _, x, h => nexts_acc l _ x (nexts_step x (.inl h))
theorem nexts_mem {n : Nat} {s : Bool} (hs : s = true → n < 8) : ∀ (l : List Q) (acc : List Q) (q : Q), q ∈ l → rndQN n s q ∈ l.foldl (fun acc q => let acc := ins acc (rndQN n false q); if n < 8 then ins acc (rndQN n true q) else acc) acc
  | [], _, _, h => nomatch h
  | z :: l, acc, q, h => by
    rw [List.foldl_cons]
    rcases List.mem_cons.1 h with rfl | h
    · refine nexts_acc l _ _ (nexts_step _ (.inr ?_))
      cases s
      · exact .inl rfl
      · exact .inr ⟨hs rfl, rfl⟩
    · exact nexts_mem hs l _ q h
theorem chk_run {f : Q → Bool} {sk : Nat → Bool} (hs : ∀ n, 8 ≤ n → sk n = false) (q : Q) : ∀ (k n : Nat) (l : List Q), chk f k n l = true → runQ sk n q ∈ l → (∀ m, m ≤ k → okQ (runQ sk (n + m) q) = true) ∧ f (runQ sk (n + k) q) = true
  | 0, n, l, h, hm => by
    unfold chk at h
    rw [Bool.and_eq_true] at h
    have h1 := List.all_eq_true.1 h.1 _ hm
    exact ⟨fun m hm => by obtain rfl : m = 0 := by omega
                          exact h1, List.all_eq_true.1 h.2 _ hm⟩
  | k + 1, n, l, h, hm => by
    unfold chk at h
    rw [Bool.and_eq_true] at h
    have h1 := List.all_eq_true.1 h.1 _ hm
    have hn : runQ sk (n + 1) q ∈ nexts n l := by
      show rndQN n (sk n) (runQ sk n q) ∈ _
      refine nexts_mem (fun e => ?_) l [] _ hm
      refine Classical.byContradiction fun h => ?_
      rw [hs n (by omega)] at e
      cases e
    obtain ⟨i1, i2⟩ := chk_run hs q k (n + 1) _ h.2 hn
    refine ⟨fun m hm => ?_, ?_⟩
    · cases m with
      | zero => exact h1
      | succ m => rw [show n + (m + 1) = n + 1 + m by omega]; exact i1 m (by omega)
    · rw [show n + (k + 1) = n + 1 + k by omega]
      exact i2
theorem Rl.run {sk : Nat → Bool} (h : Rl N 5 6 a b p q) (ha : 0 ≤ a ∧ a < 256) (hb : 0 ≤ b ∧ b < 256) {k : Nat} (hq : ∀ m, m ≤ k → okQ (runQ sk m q) = true) : ∀ m, m ≤ k → Rl N 5 6 a b (runH sk m p) (runQ sk m q)
  | 0, _ => h
  | m + 1, hm => (h.run ha hb hq m (by omega)).rndN ha hb (hq m (by omega)) m (sk m)

/-! Who asks. -/
theorem P.by_none (p : P) : p.by_ (p.s0, r0) = p := by
  unfold P.by_ r0
  simp
theorem Rl.ask (h : Rl N cr cr' a b p q) (h0 : q.a.sq = 0) (c : Nat) : Rl N cr cr' a b (askW c p) (askQ cr c q) := by
  unfold askW askQ
  split
  · exact h.by_ (h.s0.failS h0 _)
  · have hb : Rl N cr cr' a b (p.by_ (askS p.s0 (askK c) no)) (q.by_ (askS (q.a.toS cr) (askK c) no)) := h.by_ (h.s0.askS _ (fun _ => h0))
    split
    · exact hb
    · rename_i e
      have e1 : p.by_ (askS p.s0 (askK c) no) = p := by
        unfold askS
        rw [if_neg e]
        exact p.by_none
      rw [e1] at hb
      exact hb
theorem askQ_b (cr : Int) (c : Nat) (q : Q) : (askQ cr c q).b = q.b := by unfold askQ; split <;> rfl
theorem Rl.start (h : Rl N 5 6 a b p q) (h0 : q.a.sq = 0) (h1 : q.b.sq = 0) (b0 b1 : Bool) (c : Nat) : Rl N 5 6 a b (start b0 b1 c p) (startQ b0 b1 c q) := by
  unfold Tw.start startQ
  dsimp only
  have hx : Rl N 5 6 a b (if b0 = true then askW c p else p) (if b0 = true then askQ 5 c q else q) := by
    split
    · exact h.ask h0 c
    · exact h
  have hy : (if b0 = true then askQ 5 c q else q).b.sq = 0 := by
    split
    · rw [askQ_b]; exact h1
    · exact h1
  generalize (if b0 = true then askW c p else p) = p1 at *
  generalize (if b0 = true then askQ 5 c q else q) = q1 at *
  split
  · exact (hx.swap.ask hy c).unswap
  · exact hx

/-! The numbers set back. -/
theorem ph_rng {a x : Int} (_ha : 0 ≤ a ∧ a < 256) : (0 ≤ ph a x ∧ ph a x < 256) ∨ x = -1 := by
  unfold ph
  split
  · exact .inr (by assumption)
  · exact .inl (by omega)
theorem ph_zero {a : Int} (ha : 0 ≤ a ∧ a < 256) : ph a 0 = a := by unfold ph; simp; omega
theorem qs_zero : (qs.all fun q => q.a.sq == 0 && q.b.sq == 0 && (q.a.pe == 0 || q.a.pe == -1) && (q.b.pe == 0 || q.b.pe == -1) && ((q.a.st == 1 && q.b.st == 1) || (q.a.st == 10 && q.b.st == 10 && q.a.ms == 6 && q.b.ms == 5))) = true := by decide
theorem fl_zero {M : Nat} {t : List Sig} {f : F} (h : Fl N t f) (hn : N + f.n ≤ M) : Fl M t f0 := ⟨(fun h => nomatch h), (fun h => nomatch h), (fun h => nomatch h), by have := h.n; show t.length ≤ M + 0; omega⟩
/-- Behind the rounds: nothing is on its way, both are Ready or both Idle; and it is again as the likeness may begin. -/
theorem Rl.canon {M : Nat} (h : Rl N 5 6 a b p q) (ha : 0 ≤ a ∧ a < 256) (hb : 0 ≤ b ∧ b < 256) (hf : fin q = true) (hq : okQ q = true) (hM : N + 60 ≤ M) :
    p.w0 = [] ∧ p.w1 = [] ∧ ((p.s0.state = 1 ∧ p.s1.state = 1) ∨ (p.s0.state = 10 ∧ p.s1.state = 10 ∧ p.s0.ms = 6 ∧ p.s1.ms = 5)) ∧ ∃ a' b' : Int, (0 ≤ a' ∧ a' < 256) ∧ (0 ≤ b' ∧ b' < 256) ∧ canon q ∈ qs ∧ Rl M 5 6 a' b' p (canon q) := by
  simp only [fin, Bool.and_eq_true, decide_eq_true_eq, List.isEmpty_iff] at hf
  obtain ⟨⟨⟨⟨w0, w1⟩, s0⟩, s1⟩, hc⟩ := hf
  have hz := List.all_eq_true.1 qs_zero _ hc
  simp only [Bool.and_eq_true, Bool.or_eq_true, beq_iff_eq] at hz
  obtain ⟨⟨⟨⟨z0, z1⟩, z2⟩, z3⟩, z4⟩ := hz
  simp only [okQ, Bool.and_eq_true, decide_eq_true_eq] at hq
  have e0 : p.w0 = [] := by have := h.w0; rw [w0] at this; simpa using this
  have e1 : p.w1 = [] := by have := h.w1; rw [w1] at this; simpa using this
  have t0 : p.s0.state = q.a.st := h.s0.state
  have t1 : p.s1.state = q.b.st := h.s1.state
  have m0 : p.s0.ms = q.a.ms := h.s0.ms
  have m1 : p.s1.ms = q.b.ms := h.s1.ms
  refine ⟨e0, e1, ?_, ?_⟩
  · rw [t0, t1, m0, m1]
    rcases z4 with z4 | z4
    · exact .inl z4
    · exact .inr ⟨z4.1.1.1, z4.1.1.2, z4.1.2, z4.2⟩
  · have q0 : p.s0.sq = ph a q.a.sq := h.s0.sq
    have q1 : p.s1.sq = ph b q.b.sq := h.s1.sq
    have p0 : p.s0.peer = ph b q.a.pe := h.s0.peer
    have p1 : p.s1.peer = ph a q.b.pe := h.s1.peer
    have key : ∀ {a y x : Int}, 0 ≤ a ∧ a < 256 → 0 ≤ y → (if x = y then 0 else y) = 0 → ((if x = y then 0 else x) = 0 ∨ (if x = y then 0 else x) = -1) →
        ∃ a' : Int, (0 ≤ a' ∧ a' < 256) ∧ ph a y = ph a' 0 ∧ ph a x = ph a' (if x = y then 0 else x) := by
      intro a y x ha h0 hz hx
      by_cases e : x = y
      · refine ⟨ph a y, ?_, ?_, ?_⟩
        · rcases ph_rng (a := a) (x := y) ha with h | h
          · exact h
          · omega
        · unfold ph; rw [if_neg (by omega)]; simp
        · rw [if_pos e, e]
          unfold ph; rw [if_neg (by omega)]; simp
      · rw [if_neg e] at hz hx ⊢
        subst hz
        exact ⟨a, ha, rfl, rfl⟩
    obtain ⟨a', ha', A1, A2⟩ := key (x := q.b.pe) ha s0 z0 z3
    obtain ⟨b', hb', B1, B2⟩ := key (x := q.a.pe) hb s1 z1 z2
    refine ⟨a', b', ha', hb', hc, ⟨⟨h.s0.cx, rfl, h.s0.state, h.s0.ms, ?_, ?_, ?_, ?_⟩, ⟨h.s1.cx, rfl, h.s1.state, h.s1.ms, ?_, ?_, ?_, ?_⟩, by rw [e0]; rfl, by rw [e1]; rfl, (fun _ h => nomatch h), (fun _ h => nomatch h), fl_zero h.g0 (by omega), fl_zero h.g1 (by omega)⟩⟩
    · show p.s0.sq = ph a' (Tw.canon q).a.sq
      rw [z0, q0, A1]
    · show p.s0.peer = ph b' (Tw.canon q).a.pe
      rw [p0, B2]; rfl
    · exact .inr (.inl z0)
    · rcases z2 with z | z
      · exact .inr (.inl z)
      · exact .inl z
    · show p.s1.sq = ph b' (Tw.canon q).b.sq
      rw [z1, q1, B1]
    · show p.s1.peer = ph a' (Tw.canon q).b.pe
      rw [p1, A2]; rfl
    · exact .inr (.inl z1)
    · rcases z3 with z | z
      · exact .inr (.inl z)
      · exact .inl z
/-- As the likeness may begin. -/
def Good (N : Nat) (p : P) : Prop := ∃ a b : Int, ∃ q, (0 ≤ a ∧ a < 256) ∧ (0 ≤ b ∧ b < 256) ∧ q ∈ qs ∧ Rl N 5 6 a b p q
/-- So it ends. -/
def Ends (p : P) : Prop := p.w0 = [] ∧ p.w1 = [] ∧ ((p.s0.state = 1 ∧ p.s1.state = 1) ∨ (p.s0.state = 10 ∧ p.s1.state = 10 ∧ p.s0.ms = 6 ∧ p.s1.ms = 5))
def Lim (M : Nat) (p : P) : Prop := p.w0.length ≤ 8 ∧ p.w1.length ≤ 8 ∧ p.t0.length ≤ M ∧ p.t1.length ≤ M
theorem map_len {a b : Int} {l : List Pd} {l' : List U} (h : l.map ofP = l'.map (mapU a b)) : l.length = l'.length := by have := congrArg List.length h; simpa using this
theorem two {N M : Nat} {p : P} (h : Good N p) {sk : Nat → Bool} (hs : ∀ n, 8 ≤ n → sk n = false) (c : Nat) (hc : c < 16) (hM : N + 60 ≤ M) :
    (∀ n, n ≤ 60 → Lim M (runH sk n (start (c % 2 == 1) (c / 2 % 2 == 1) (c / 4) p))) ∧ Ends (runH sk 60 (start (c % 2 == 1) (c / 2 % 2 == 1) (c / 4) p)) ∧ Good M (runH sk 60 (start (c % 2 == 1) (c / 2 % 2 == 1) (c / 4) p)) := by
  obtain ⟨a, b, q, ha, hb, hq, h⟩ := h
  have hz := List.all_eq_true.1 qs_zero _ hq
  simp only [Bool.and_eq_true, Bool.or_eq_true, beq_iff_eq] at hz
  have hk := List.all_eq_true.1 (List.all_eq_true.1 checked q hq) c (List.mem_range.2 hc)
  have h1 := h.start hz.1.1.1.1 hz.1.1.1.2 (c % 2 == 1) (c / 2 % 2 == 1) (c / 4)
  generalize start (c % 2 == 1) (c / 2 % 2 == 1) (c / 4) p = p0 at *
  generalize startQ (c % 2 == 1) (c / 2 % 2 == 1) (c / 4) q = q0 at *
  obtain ⟨r1, r2⟩ := chk_run (f := fin) (sk := sk) hs q0 60 0 [q0] hk (List.mem_singleton.2 rfl)
  have r1 : ∀ m, m ≤ 60 → okQ (runQ sk m q0) = true := fun m hm => by have := r1 m hm; rw [Nat.zero_add] at this; exact this
  have r2 : fin (runQ sk 60 q0) = true := by rw [Nat.zero_add] at r2; exact r2
  have hr := h1.run ha hb r1
  refine ⟨fun n hn => ?_, ?_⟩
  · have hx := hr n hn
    have ho := r1 n hn
    simp only [okQ, Bool.and_eq_true, decide_eq_true_eq] at ho
    have l0 := map_len hx.w0
    have l1 := map_len hx.w1
    have n0 := hx.g0.n
    have n1 := hx.g1.n
    exact ⟨by omega, by omega, by omega, by omega⟩
  · obtain ⟨e0, e1, e2, a', b', ha', hb', hc', hr'⟩ := (hr 60 (Nat.le_refl _)).canon ha hb r2 (r1 60 (Nat.le_refl _)) hM
    exact ⟨⟨e0, e1, e2⟩, a', b', _, ha', hb', hc', hr'⟩
theorem good_new : Good 0 ⟨Cn.new 3 5, Cn.new 3 6, [], [], [], []⟩ := by
  refine ⟨0, 0, ⟨⟨1, 0, -1, 5⟩, ⟨1, 0, -1, 6⟩, [], [], f0, f0⟩, by omega, by omega, by decide, ⟨⟨rfl, rfl, rfl, rfl, rfl, rfl, .inr (.inl rfl), .inl rfl⟩, ⟨rfl, rfl, rfl, rfl, rfl, rfl, .inr (.inl rfl), .inl rfl⟩, rfl, rfl, (fun _ h => nomatch h), (fun _ h => nomatch h), ⟨(fun h => nomatch h), (fun h => nomatch h), (fun h => nomatch h), Nat.le_refl _⟩, ⟨(fun h => nomatch h), (fun h => nomatch h), (fun h => nomatch h), Nat.le_refl _⟩⟩⟩
end Tw
end Go.Proofs.Ytkmegkjkbalooaa

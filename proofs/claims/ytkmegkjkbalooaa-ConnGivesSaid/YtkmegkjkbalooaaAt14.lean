/-
  polliwoglaw14.at: a connection in a state, by the shortest way; and the document's.
-/
import Derived.Test.YtkmegkjkbalooaaStep14
import Derived.Test.YtkmegkjkbalooaaRLq
import Derived.Test.YtkmegkjkbalooaaAppN
namespace Go.Proofs.Ytkmegkjkbalooaa
open Go.RowKit

namespace Cn
/-- An act. -/
structure Ac where
  kind : Int
  n : Int
  unit : Int
  which : Int
  sq : Int
  self : Bool
  data : ByteArray
def no' : ByteArray := { data := #[] }
def ac (kind n unit which sq : Int) : Ac := ⟨kind, n, unit, which, sq, false, { data := #[] }⟩
def unitOf (s : S) (a : Ac) : Pd := if a.unit = 0 then ⟨1, 7, 0, 0, 0, none, 0, 0, false, no'⟩ else if a.unit = 4 then ⟨5, 8, 0, 0, 0, none, 0, 0, false, no'⟩ else if a.unit = 8 then ⟨9, 8, 0, 0, 0, none, 0, 0, false, no'⟩ else ⟨15, s.sq, 0, 0, 0, none, 0, 0, false, no'⟩
def stepS (s : S) (a : Ac) : SR := if a.kind = 1 then askS s a.n no' else if a.kind = 3 then failS s 81 else hearS s (unitOf s a)
/-- What the ways ask of the document's functions. -/
def okUnit (s : S) (p : Pd) : Bool := Ru.refOf s.state p.kind == 1 && ((p.kind == 1 && s.state == 1 && !(p.sq == s.peer)) || (p.kind == 5 && decide (7 ≤ s.state) && decide (s.state ≤ 10) && !(p.sq == s.peer)) || (p.kind == 9 && s.state == 10 && !(p.sq == s.peer)) || (p.kind == 15 && s.state == 7 && p.sq == s.sq))
def okAct (s : S) (a : Ac) : Bool := if a.kind = 1 then askErr s a.n no' == 0 && (a.n == 1 || a.n == 2 || (a.n == 3 && !(s.state == 3)) || a.n == 4) else if a.kind = 3 then true else okUnit s (unitOf s a)
def readyW : List Ac := [ac 0 0 0 2 7, ac 1 2 0 0 0]
def ways : List (List Ac) := [[], [ac 1 1 0 0 0], [ac 0 0 0 2 7], [ac 1 1 0 0 0, ac 1 3 0 0 0], readyW ++ [ac 1 4 0 0 0], readyW ++ [ac 0 0 4 2 8], readyW ++ [ac 3 81 0 0 0], readyW ++ [ac 3 81 0 0 0, ac 0 0 14 0 0], readyW ++ [ac 0 0 8 2 8], readyW]
def run (l : List Ac) : S := l.foldl (fun s a => (stepS s a).1) (new 2 9)
end Cn

def actE : El Cn.Ac := { e := 85, size := 7, bytes := 64, zero := .agg #[.int .i64 0, .int .i64 0, .int .i64 0, .int .i64 0, .int .i64 0, .bool false, .string ByteArray.empty], zel := ⟨0, 0, 0, 0, 0, false, ByteArray.empty⟩, enc := fun a => [.int .i64 a.kind, .int .i64 a.n, .int .i64 a.unit, .int .i64 a.which, .int .i64 a.sq, .bool a.self, .string a.data], len := fun _ => rfl, one := by simp [Value.oneCell'], pos := by decide, zsize := rfl, zenc := rfl }
theorem Try.infoAct : (Try.prog.info? 85).map (fun i => (i.zero, i.size, i.bytes)) = some (some (.agg #[.int .i64 0, .int .i64 0, .int .i64 0, .int .i64 0, .int .i64 0, .bool false, .string ByteArray.empty]), 7, 64) := by kernel_rfl
/-- A row of rows: each a slice's own word. -/
structure Rw where
  A : Option Addr
  n : Nat
  c : Nat
def rowE : El Rw := { e := 83, size := 1, bytes := 24, zero := .slice none 0 0, zel := ⟨none, 0, 0⟩, enc := fun r => [.slice r.A r.n r.c], len := fun _ => rfl, one := by simp [Value.oneCell'], pos := by decide, zsize := rfl, zenc := rfl }
theorem Try.infoRow : (Try.prog.info? 83).map (fun i => (i.zero, i.size, i.bytes)) = some (some (.slice none 0 0), 1, 24) := by kernel_rfl

/-- append to a full row of acts: a new one. -/
theorem app_act {ops : Array Oper} {rest : List Oper} {o : Oper} {a : Act} {Q : Exit → Act → World → Prop} {w : World} (hw : Region.wanted o (yielded ops a.tmps) = true) {s x : Operand}
    (ho : o.op = .call { callee := .builtin .append, args := #[s, x], argTypes := #[83, 83] })
    {A A2 : Option Addr} {c c2 : Nat} {l l2 : List Cn.Ac} (es : a.eval s = .slice A l.length c) (ex : a.eval x = .slice A2 l2.length c2)
    (h : Rd actE w A c l) (h2 : Rd actE w A2 c2 l2) (hr : ¬ l.length + l2.length ≤ c) (hm : l.length + l2.length ≤ 1000)
    (hK : ∀ A' c' L w', Hid (L = l ++ l2) → Mine actE w w' A' c' L → wpList Try.prog ops Q rest (a.put o.dst (.slice A' L.length c')) w') : wpList Try.prog ops Q (o :: rest) a w := by
  obtain ⟨i0, hi, hz0, hz1, hz2⟩ := info_parts Try.infoAct
  exact wpList_app_new actE hw ho i0 Try.underlying83 hi hz0 hz1 hz2 es ex h h2 hr (by simp only [maxLen]; omega) (by show _ * 64 ≤ _; omega) hK
theorem app_row {ops : Array Oper} {rest : List Oper} {o : Oper} {a : Act} {Q : Exit → Act → World → Prop} {w : World} (hgd : o.guard = none) {s x : Operand}
    (ho : o.op = .call { callee := .builtin .append, args := #[s, x], argTypes := #[86, 86] })
    {A A2 : Option Addr} {c c2 : Nat} {l l2 : List Rw} (es : a.eval s = .slice A l.length c) (ex : a.eval x = .slice A2 l2.length c2)
    (h : Sl rowE w A c l) (h2 : Rd rowE w A2 c2 l2) (hm : l.length + l2.length ≤ 1000)
    (hK : ∀ A' c' L w', Hid (L = l ++ l2) → Sl rowE w' A' c' L → Touch (fun k => A.map Addr.block = some k) w w' → (A'.map Addr.block = A.map Addr.block ∨ A'.map Addr.block = some w.heap.size) →
      wpList Try.prog ops Q rest (a.put o.dst (.slice A' L.length c')) w') : wpList Try.prog ops Q (o :: rest) a w := by
  obtain ⟨i0, hi, hz0, hz1, hz2⟩ := info_parts Try.infoRow
  exact wpList_app rowE hgd ho i0 Try.underlying86 hi hz0 hz1 hz2 es ex h h2 (by simp only [maxLen]; omega) (by show _ * 24 ≤ _; omega) hK

/-- An act's value. -/
def acV (a : Cn.Ac) : Value := .agg #[.int .i64 a.kind, .int .i64 a.n, .int .i64 a.unit, .int .i64 a.which, .int .i64 a.sq, .bool a.self, .string a.data]

theorem Cn.okUnit.hear {s : Cn.S} {p : Cn.Pd} (h : Cn.okUnit s p = true) (K : Nat → Prop) (w : World) (hlim : ∀ k, K k → k < w.heap.size) :
    Calls Try.prog 62 #[rcV s, ruV p] w (RPost K 9 (Cn.hearS s p) w) := by
  simp only [Cn.okUnit, Bool.and_eq_true, Bool.or_eq_true, beq_iff_eq, decide_eq_true_eq, Bool.not_eq_true', beq_eq_false_iff_ne, ne_eq] at h
  obtain ⟨q1, hc⟩ := h
  refine rreceive_some hlim s p q1 ?_
  rcases hc with ((⟨⟨e, e2⟩, e3⟩ | ⟨⟨⟨e, e2⟩, e2'⟩, e3⟩) | ⟨⟨e, e2⟩, e3⟩) | ⟨⟨e, e2⟩, e3⟩
  · exact .inl ⟨e, e2, e3⟩
  · exact .inr (.inl ⟨e, ⟨e2, e2'⟩, e3⟩)
  · exact .inr (.inr (.inl ⟨e, e2, e3⟩))
  · exact .inr (.inr (.inr ⟨e, e2, e3⟩))

theorem step_at {w : World} {c : Nat} {s : Cn.S} (h : ConnAt w c s) (ho : Cn.Ok s) (a : Cn.Ac)
    (ha : (∃ n, a = Cn.ac 1 n 0 0 0) ∨ a = Cn.ac 3 81 0 0 0 ∨ a = Cn.ac 0 0 0 2 7 ∨ a = Cn.ac 0 0 4 2 8 ∨ a = Cn.ac 0 0 8 2 8 ∨ a = Cn.ac 0 0 14 0 0) (hk : ROk (Cn.stepS s a).2) (hs : Cn.okAct s a = true) :
    Calls Try.prog 37 #[.pointer (some ⟨c, 0, none⟩), rcV s, acV a] w (StepPost c (Cn.stepS s a) w) := by
  rcases ha with ⟨n, rfl⟩ | rfl | rfl | rfl | rfl | rfl
  · have e : Cn.askS s n { data := #[] } = Cn.stepS s (Cn.ac 1 n 0 0 0) := by unfold Cn.stepS Cn.ac Cn.no'; simp only [↓reduceIte]
    unfold Cn.okAct at hs
    rw [if_pos (show (Cn.ac 1 n 0 0 0).kind = 1 from rfl)] at hs
    simp only [Cn.ac, Bool.and_eq_true, Bool.or_eq_true, beq_iff_eq, Bool.not_eq_true', beq_eq_false_iff_ne, ne_eq] at hs
    obtain ⟨he, hc⟩ := hs
    have hc' : n = 1 ∨ n = 2 ∨ (n = 3 ∧ ¬ s.state = 3) ∨ n = 4 := by
      rcases hc with ((hc | hc) | hc) | hc
      · exact .inl hc
      · exact .inr (.inl hc)
      · exact .inr (.inr (.inl hc))
      · exact .inr (.inr (.inr hc))
    exact step_ask h ho n e rfl hk (fun K w hlim => rrequest_some hlim n _ (by unfold maxLen; decide) ⟨ho.sq0, ho.sq1⟩ he hc')
  · have e : Cn.failS s 81 = Cn.stepS s (Cn.ac 3 81 0 0 0) := by unfold Cn.stepS Cn.ac; simp only [Int.reduceEq, ↓reduceIte]
    exact step_fail h ho e hk
  · have e : Cn.hearS s ⟨1, 7, 0, 0, 0, none, 0, 0, false, { data := #[] }⟩ = Cn.stepS s (Cn.ac 0 0 0 2 7) := by unfold Cn.stepS Cn.unitOf Cn.ac Cn.no'; simp only [Int.reduceEq, ↓reduceIte]
    exact step_hear h ho 0 2 7 1 7 0 false { data := #[] } rfl rfl (unit_bgn s) e hk (Cn.okUnit.hear hs)
  · have e : Cn.hearS s ⟨5, 8, 0, 0, 0, none, 0, 0, false, { data := #[] }⟩ = Cn.stepS s (Cn.ac 0 0 4 2 8) := by unfold Cn.stepS Cn.unitOf Cn.ac Cn.no'; simp only [Int.reduceEq, ↓reduceIte]
    exact step_hear h ho 4 2 8 5 8 0 false { data := #[] } rfl rfl (unit_rs s) e hk (Cn.okUnit.hear hs)
  · have e : Cn.hearS s ⟨9, 8, 0, 0, 0, none, 0, 0, false, { data := #[] }⟩ = Cn.stepS s (Cn.ac 0 0 8 2 8) := by unfold Cn.stepS Cn.unitOf Cn.ac Cn.no'; simp only [Int.reduceEq, ↓reduceIte]
    exact step_hear h ho 8 2 8 9 8 0 false { data := #[] } rfl rfl (unit_er s) e hk (Cn.okUnit.hear hs)
  · have e : Cn.hearS s ⟨15, s.sq, 0, 0, 0, none, 0, 0, false, { data := #[] }⟩ = Cn.stepS s (Cn.ac 0 0 14 0 0) := by unfold Cn.stepS Cn.unitOf Cn.ac Cn.no'; simp only [Int.reduceEq, ↓reduceIte]
    exact step_hear h ho 14 0 0 15 s.sq 0 false { data := #[] } rfl rfl (unit_erak s) e hk (Cn.okUnit.hear hs)

/-- A row is known whole. -/
theorem Sl.of_blk {α : Type} {E : El α} {w : World} {g n : Nat} {cs : List Value} {l : List α} (h : Blk w g E.e cs) (e : cs = E.all l) (hn : n = l.length) (hm : n ≤ maxLen) : Sl E w (some ⟨g, 0, none⟩) n l := by
  subst hn
  refine ⟨Nat.le_refl _, hm, fun h => (by cases h), fun ad ha => ?_⟩
  injection ha with ha
  subst ha
  exact ⟨rfl, cs, h, by rw [e, El.all_len]; simp, by rw [e, List.drop_zero, ← El.all_len, List.take_length]⟩
theorem Sl.other {α β : Type} {E : El α} {E' : El β} {w w' : World} {A A' : Option Addr} {c c' : Nat} {l : List α} {l' : List β} (h : Sl E w A c l) (h' : Sl E' w A' c' l') (ht : Touch (fun k => A'.map Addr.block = some k) w w') (hne : E.e ≠ E'.e) : Sl E w' A c l :=
  h.touch ht fun ad e hh => by
    cases A' with
    | none => cases hh
    | some ad' =>
      injection hh with hh
      obtain ⟨_, cs, hb, _⟩ := h'.2.2.2 ad' rfl
      exact h.blk_ne hb hne ad e hh.symm
theorem Blk.other {β : Type} {E' : El β} {w w' : World} {A' : Option Addr} {c' g : Nat} {t : TypeId} {cs : List Value} {l' : List β} (h : Blk w g t cs) (h' : Sl E' w A' c' l') (ht : Touch (fun k => A'.map Addr.block = some k) w w') (hne : t ≠ E'.e) : Blk w' g t cs :=
  ht.blk h fun hh => by
    cases A' with
    | none => cases hh
    | some ad' =>
      injection hh with hh
      obtain ⟨_, cs', hb, _⟩ := h'.2.2.2 ad' rfl
      exact h.ne_ hb hne hh.symm
theorem Fresh.other {β : Type} {E' : El β} {w0 w w' : World} {A' : Option Addr} {c' : Nat} {l' : List β} (h : Fresh w0 w) (h' : Sl E' w A' c' l') (ht : Touch (fun k => A'.map Addr.block = some k) w w') (hb : ∀ ad, A' = some ad → w0.heap.size ≤ ad.block) : Fresh w0 w' :=
  h.trans ht fun k hk hh => by
    cases A' with
    | none => cases hh
    | some ad' => injection hh with hh; have := hb ad' rfl; omega

/-- What stands ahead of the loop. -/
structure AtIn (w : World) (c : Nat) (wl : World) (W : Option Addr) (cw : Nat) (bx : Nat) (L : List Rw) : Prop where
  fresh : Fresh w wl
  conn : ConnAt wl c (Cn.new 2 9)
  hc : w.heap.size + 1 ≤ c
  box : Blk wl bx 59 (rcCells (Cn.new 2 9))
  hbx : w.heap.size + 1 ≤ bx
  out : Blk wl w.heap.size 59 [.int .i64 0, .int .i64 0, .int .i64 0, .int .i64 0, .int .i64 0, .int .i64 0, .int .i64 0, .string { data := #[] }]
  ways : Sl rowE wl W cw L
  len : L.length = 10
  rows : ∀ k (h : k < L.length), Sl actE wl L[k].A L[k].c (Cn.ways.getD k []) ∧ L[k].n = (Cn.ways.getD k []).length

/-- An act that may be, behind a state. -/
structure AOk (s : Cn.S) (a : Cn.Ac) : Prop where
  act : (∃ n, a = Cn.ac 1 n 0 0 0) ∨ a = Cn.ac 3 81 0 0 0 ∨ a = Cn.ac 0 0 0 2 7 ∨ a = Cn.ac 0 0 4 2 8 ∨ a = Cn.ac 0 0 8 2 8 ∨ a = Cn.ac 0 0 14 0 0
  res : ROk (Cn.stepS s a).2
  may : Cn.okAct s a = true

set_option maxHeartbeats 8000000 in
set_option maxRecDepth 100000 in
theorem at14_dev (w : World) (k : Nat) (hk : k < 10) (hok : ∀ j (h : j < (Cn.ways.getD k []).length), AOk (Cn.run ((Cn.ways.getD k []).take j)) (Cn.ways.getD k [])[j]) :
    Calls Try.prog 17 #[.int .i64 ((k : Int) + 1)] w fun e w' => ∃ c, e = .returned (.tuple #[.pointer (some ⟨c, 0, none⟩), rcV (Cn.run (Cn.ways.getD k []))]) ∧ ConnAt w' c (Cn.run (Cn.ways.getD k [])) ∧ Cn.Ok (Cn.run (Cn.ways.getD k [])) ∧ w.heap.size ≤ c ∧ Fresh w w' := by
  go_enter Try.func17, Try.ntmps17
  go_wp2_with fail
  refine (cnew_any 2 9 _).mono ?_
  rintro e w1 ⟨c, rfl, hc, h1, o1, f1⟩
  have HO1 := Lib.hid o1
  have HCC : Hid (w.heap.size + 1 ≤ c) := by simpa [Hid] using hc
  go_wp2_with fail
  refine (rnew_any14 2 9 _).mono ?_
  rintro e w2 ⟨rfl, f2⟩
  have HF2 : Hid (Fresh w w2) := (((Touch.refl _ w).alloc _).trans f1 (fun _ _ e => e)).trans f2 (fun _ _ e => e)
  have HC2 : Hid (ConnAt w2 c (Cn.new 2 9)) := f2.blk h1 (fun e => e)
  have HO2 : Hid (Blk w2 w.heap.size 59 [.int .i64 0, .int .i64 0, .int .i64 0, .int .i64 0, .int .i64 0, .int .i64 0, .int .i64 0, .string { data := #[] }]) := f2.blk (f1.blk (Blk.new w _ [.int .i64 0, .int .i64 0, .int .i64 0, .int .i64 0, .int .i64 0, .int .i64 0, .int .i64 0, .string { data := #[] }]) (fun e => e)) (fun e => e)
  clear hc h1 o1 f1 f2
  simp only [rcV]
  go_upto_region 4 with (fail)
  obtain ⟨w3, q0⟩ : ∃ x : World, x = (((((((w2.alloc (.cells #[.int .i64 (Cn.new 2 9).most, .int .i64 (Cn.new 2 9).credit, .int .i64 (Cn.new 2 9).state, .int .i64 (Cn.new 2 9).sq, .int .i64 (Cn.new 2 9).peer, .int .i64 (Cn.new 2 9).cc, .int .i64 (Cn.new 2 9).ms, .string (Cn.new 2 9).data] 59)).alloc (.cells #[] 85)).alloc (.cells #[.int .i64 1, .int .i64 1, .int .i64 0, .int .i64 0, .int .i64 0, .bool false, .string { data := #[] }] 85)).alloc (.cells #[.int .i64 0, .int .i64 0, .int .i64 0, .int .i64 2, .int .i64 7, .bool false, .string { data := #[] }] 85)).alloc (.cells #[.int .i64 1, .int .i64 1, .int .i64 0, .int .i64 0, .int .i64 0, .bool false, .string { data := #[] }, .int .i64 1, .int .i64 3, .int .i64 0, .int .i64 0, .int .i64 0, .bool false, .string { data := #[] }] 85)).alloc (.cells #[.slice (some ⟨w2.heap.size + 1, 0, none⟩) 0 0, .slice (some ⟨w2.heap.size + 1 + 1, 0, none⟩) 1 1, .slice (some ⟨w2.heap.size + 1 + 1 + 1, 0, none⟩) 1 1, .slice (some ⟨w2.heap.size + 1 + 1 + 1 + 1, 0, none⟩) 2 2] 83)).alloc (.cells #[.int .i64 0, .int .i64 0, .int .i64 0, .int .i64 2, .int .i64 7, .bool false, .string { data := #[] }, .int .i64 1, .int .i64 2, .int .i64 0, .int .i64 0, .int .i64 0, .bool false, .string { data := #[] }] 85)) := ⟨_, rfl⟩
  have q_w3 := Lib.hid q0
  clear q0
  have HB0 : Blk w3 (w2.heap.size) 59 [.int .i64 (Cn.new 2 9).most, .int .i64 (Cn.new 2 9).credit, .int .i64 (Cn.new 2 9).state, .int .i64 (Cn.new 2 9).sq, .int .i64 (Cn.new 2 9).peer, .int .i64 (Cn.new 2 9).cc, .int .i64 (Cn.new 2 9).ms, .string (Cn.new 2 9).data] := by
      rw [q_w3.out]
      have := ((((((Blk.new w2 59 [.int .i64 (Cn.new 2 9).most, .int .i64 (Cn.new 2 9).credit, .int .i64 (Cn.new 2 9).state, .int .i64 (Cn.new 2 9).sq, .int .i64 (Cn.new 2 9).peer, .int .i64 (Cn.new 2 9).cc, .int .i64 (Cn.new 2 9).ms, .string (Cn.new 2 9).data]).alloc (.cells #[] 85)).alloc (.cells #[.int .i64 1, .int .i64 1, .int .i64 0, .int .i64 0, .int .i64 0, .bool false, .string { data := #[] }] 85)).alloc (.cells #[.int .i64 0, .int .i64 0, .int .i64 0, .int .i64 2, .int .i64 7, .bool false, .string { data := #[] }] 85)).alloc (.cells #[.int .i64 1, .int .i64 1, .int .i64 0, .int .i64 0, .int .i64 0, .bool false, .string { data := #[] }, .int .i64 1, .int .i64 3, .int .i64 0, .int .i64 0, .int .i64 0, .bool false, .string { data := #[] }] 85)).alloc (.cells #[.slice (some ⟨w2.heap.size + 1, 0, none⟩) 0 0, .slice (some ⟨w2.heap.size + 1 + 1, 0, none⟩) 1 1, .slice (some ⟨w2.heap.size + 1 + 1 + 1, 0, none⟩) 1 1, .slice (some ⟨w2.heap.size + 1 + 1 + 1 + 1, 0, none⟩) 2 2] 83)).alloc (.cells #[.int .i64 0, .int .i64 0, .int .i64 0, .int .i64 2, .int .i64 7, .bool false, .string { data := #[] }, .int .i64 1, .int .i64 2, .int .i64 0, .int .i64 0, .int .i64 0, .bool false, .string { data := #[] }] 85)
      exact this
  have HB1 : Blk w3 (w2.heap.size + 1) 85 [] := by
      rw [q_w3.out]
      have := (((((Blk.new (w2.alloc (.cells #[.int .i64 (Cn.new 2 9).most, .int .i64 (Cn.new 2 9).credit, .int .i64 (Cn.new 2 9).state, .int .i64 (Cn.new 2 9).sq, .int .i64 (Cn.new 2 9).peer, .int .i64 (Cn.new 2 9).cc, .int .i64 (Cn.new 2 9).ms, .string (Cn.new 2 9).data] 59)) 85 []).alloc (.cells #[.int .i64 1, .int .i64 1, .int .i64 0, .int .i64 0, .int .i64 0, .bool false, .string { data := #[] }] 85)).alloc (.cells #[.int .i64 0, .int .i64 0, .int .i64 0, .int .i64 2, .int .i64 7, .bool false, .string { data := #[] }] 85)).alloc (.cells #[.int .i64 1, .int .i64 1, .int .i64 0, .int .i64 0, .int .i64 0, .bool false, .string { data := #[] }, .int .i64 1, .int .i64 3, .int .i64 0, .int .i64 0, .int .i64 0, .bool false, .string { data := #[] }] 85)).alloc (.cells #[.slice (some ⟨w2.heap.size + 1, 0, none⟩) 0 0, .slice (some ⟨w2.heap.size + 1 + 1, 0, none⟩) 1 1, .slice (some ⟨w2.heap.size + 1 + 1 + 1, 0, none⟩) 1 1, .slice (some ⟨w2.heap.size + 1 + 1 + 1 + 1, 0, none⟩) 2 2] 83)).alloc (.cells #[.int .i64 0, .int .i64 0, .int .i64 0, .int .i64 2, .int .i64 7, .bool false, .string { data := #[] }, .int .i64 1, .int .i64 2, .int .i64 0, .int .i64 0, .int .i64 0, .bool false, .string { data := #[] }] 85)
      rwa [show (w2.alloc (.cells #[.int .i64 (Cn.new 2 9).most, .int .i64 (Cn.new 2 9).credit, .int .i64 (Cn.new 2 9).state, .int .i64 (Cn.new 2 9).sq, .int .i64 (Cn.new 2 9).peer, .int .i64 (Cn.new 2 9).cc, .int .i64 (Cn.new 2 9).ms, .string (Cn.new 2 9).data] 59)).heap.size = w2.heap.size + 1 by simp] at this
  have HB2 : Blk w3 (w2.heap.size + 1 + 1) 85 [.int .i64 1, .int .i64 1, .int .i64 0, .int .i64 0, .int .i64 0, .bool false, .string { data := #[] }] := by
      rw [q_w3.out]
      have := ((((Blk.new ((w2.alloc (.cells #[.int .i64 (Cn.new 2 9).most, .int .i64 (Cn.new 2 9).credit, .int .i64 (Cn.new 2 9).state, .int .i64 (Cn.new 2 9).sq, .int .i64 (Cn.new 2 9).peer, .int .i64 (Cn.new 2 9).cc, .int .i64 (Cn.new 2 9).ms, .string (Cn.new 2 9).data] 59)).alloc (.cells #[] 85)) 85 [.int .i64 1, .int .i64 1, .int .i64 0, .int .i64 0, .int .i64 0, .bool false, .string { data := #[] }]).alloc (.cells #[.int .i64 0, .int .i64 0, .int .i64 0, .int .i64 2, .int .i64 7, .bool false, .string { data := #[] }] 85)).alloc (.cells #[.int .i64 1, .int .i64 1, .int .i64 0, .int .i64 0, .int .i64 0, .bool false, .string { data := #[] }, .int .i64 1, .int .i64 3, .int .i64 0, .int .i64 0, .int .i64 0, .bool false, .string { data := #[] }] 85)).alloc (.cells #[.slice (some ⟨w2.heap.size + 1, 0, none⟩) 0 0, .slice (some ⟨w2.heap.size + 1 + 1, 0, none⟩) 1 1, .slice (some ⟨w2.heap.size + 1 + 1 + 1, 0, none⟩) 1 1, .slice (some ⟨w2.heap.size + 1 + 1 + 1 + 1, 0, none⟩) 2 2] 83)).alloc (.cells #[.int .i64 0, .int .i64 0, .int .i64 0, .int .i64 2, .int .i64 7, .bool false, .string { data := #[] }, .int .i64 1, .int .i64 2, .int .i64 0, .int .i64 0, .int .i64 0, .bool false, .string { data := #[] }] 85)
      rwa [show ((w2.alloc (.cells #[.int .i64 (Cn.new 2 9).most, .int .i64 (Cn.new 2 9).credit, .int .i64 (Cn.new 2 9).state, .int .i64 (Cn.new 2 9).sq, .int .i64 (Cn.new 2 9).peer, .int .i64 (Cn.new 2 9).cc, .int .i64 (Cn.new 2 9).ms, .string (Cn.new 2 9).data] 59)).alloc (.cells #[] 85)).heap.size = w2.heap.size + 1 + 1 by simp] at this
  have HB3 : Blk w3 (w2.heap.size + 1 + 1 + 1) 85 [.int .i64 0, .int .i64 0, .int .i64 0, .int .i64 2, .int .i64 7, .bool false, .string { data := #[] }] := by
      rw [q_w3.out]
      have := (((Blk.new (((w2.alloc (.cells #[.int .i64 (Cn.new 2 9).most, .int .i64 (Cn.new 2 9).credit, .int .i64 (Cn.new 2 9).state, .int .i64 (Cn.new 2 9).sq, .int .i64 (Cn.new 2 9).peer, .int .i64 (Cn.new 2 9).cc, .int .i64 (Cn.new 2 9).ms, .string (Cn.new 2 9).data] 59)).alloc (.cells #[] 85)).alloc (.cells #[.int .i64 1, .int .i64 1, .int .i64 0, .int .i64 0, .int .i64 0, .bool false, .string { data := #[] }] 85)) 85 [.int .i64 0, .int .i64 0, .int .i64 0, .int .i64 2, .int .i64 7, .bool false, .string { data := #[] }]).alloc (.cells #[.int .i64 1, .int .i64 1, .int .i64 0, .int .i64 0, .int .i64 0, .bool false, .string { data := #[] }, .int .i64 1, .int .i64 3, .int .i64 0, .int .i64 0, .int .i64 0, .bool false, .string { data := #[] }] 85)).alloc (.cells #[.slice (some ⟨w2.heap.size + 1, 0, none⟩) 0 0, .slice (some ⟨w2.heap.size + 1 + 1, 0, none⟩) 1 1, .slice (some ⟨w2.heap.size + 1 + 1 + 1, 0, none⟩) 1 1, .slice (some ⟨w2.heap.size + 1 + 1 + 1 + 1, 0, none⟩) 2 2] 83)).alloc (.cells #[.int .i64 0, .int .i64 0, .int .i64 0, .int .i64 2, .int .i64 7, .bool false, .string { data := #[] }, .int .i64 1, .int .i64 2, .int .i64 0, .int .i64 0, .int .i64 0, .bool false, .string { data := #[] }] 85)
      rwa [show (((w2.alloc (.cells #[.int .i64 (Cn.new 2 9).most, .int .i64 (Cn.new 2 9).credit, .int .i64 (Cn.new 2 9).state, .int .i64 (Cn.new 2 9).sq, .int .i64 (Cn.new 2 9).peer, .int .i64 (Cn.new 2 9).cc, .int .i64 (Cn.new 2 9).ms, .string (Cn.new 2 9).data] 59)).alloc (.cells #[] 85)).alloc (.cells #[.int .i64 1, .int .i64 1, .int .i64 0, .int .i64 0, .int .i64 0, .bool false, .string { data := #[] }] 85)).heap.size = w2.heap.size + 1 + 1 + 1 by simp] at this
  have HB4 : Blk w3 (w2.heap.size + 1 + 1 + 1 + 1) 85 [.int .i64 1, .int .i64 1, .int .i64 0, .int .i64 0, .int .i64 0, .bool false, .string { data := #[] }, .int .i64 1, .int .i64 3, .int .i64 0, .int .i64 0, .int .i64 0, .bool false, .string { data := #[] }] := by
      rw [q_w3.out]
      have := ((Blk.new ((((w2.alloc (.cells #[.int .i64 (Cn.new 2 9).most, .int .i64 (Cn.new 2 9).credit, .int .i64 (Cn.new 2 9).state, .int .i64 (Cn.new 2 9).sq, .int .i64 (Cn.new 2 9).peer, .int .i64 (Cn.new 2 9).cc, .int .i64 (Cn.new 2 9).ms, .string (Cn.new 2 9).data] 59)).alloc (.cells #[] 85)).alloc (.cells #[.int .i64 1, .int .i64 1, .int .i64 0, .int .i64 0, .int .i64 0, .bool false, .string { data := #[] }] 85)).alloc (.cells #[.int .i64 0, .int .i64 0, .int .i64 0, .int .i64 2, .int .i64 7, .bool false, .string { data := #[] }] 85)) 85 [.int .i64 1, .int .i64 1, .int .i64 0, .int .i64 0, .int .i64 0, .bool false, .string { data := #[] }, .int .i64 1, .int .i64 3, .int .i64 0, .int .i64 0, .int .i64 0, .bool false, .string { data := #[] }]).alloc (.cells #[.slice (some ⟨w2.heap.size + 1, 0, none⟩) 0 0, .slice (some ⟨w2.heap.size + 1 + 1, 0, none⟩) 1 1, .slice (some ⟨w2.heap.size + 1 + 1 + 1, 0, none⟩) 1 1, .slice (some ⟨w2.heap.size + 1 + 1 + 1 + 1, 0, none⟩) 2 2] 83)).alloc (.cells #[.int .i64 0, .int .i64 0, .int .i64 0, .int .i64 2, .int .i64 7, .bool false, .string { data := #[] }, .int .i64 1, .int .i64 2, .int .i64 0, .int .i64 0, .int .i64 0, .bool false, .string { data := #[] }] 85)
      rwa [show ((((w2.alloc (.cells #[.int .i64 (Cn.new 2 9).most, .int .i64 (Cn.new 2 9).credit, .int .i64 (Cn.new 2 9).state, .int .i64 (Cn.new 2 9).sq, .int .i64 (Cn.new 2 9).peer, .int .i64 (Cn.new 2 9).cc, .int .i64 (Cn.new 2 9).ms, .string (Cn.new 2 9).data] 59)).alloc (.cells #[] 85)).alloc (.cells #[.int .i64 1, .int .i64 1, .int .i64 0, .int .i64 0, .int .i64 0, .bool false, .string { data := #[] }] 85)).alloc (.cells #[.int .i64 0, .int .i64 0, .int .i64 0, .int .i64 2, .int .i64 7, .bool false, .string { data := #[] }] 85)).heap.size = w2.heap.size + 1 + 1 + 1 + 1 by simp] at this
  have HB5 : Blk w3 (w2.heap.size + 1 + 1 + 1 + 1 + 1) 83 [.slice (some ⟨w2.heap.size + 1, 0, none⟩) 0 0, .slice (some ⟨w2.heap.size + 1 + 1, 0, none⟩) 1 1, .slice (some ⟨w2.heap.size + 1 + 1 + 1, 0, none⟩) 1 1, .slice (some ⟨w2.heap.size + 1 + 1 + 1 + 1, 0, none⟩) 2 2] := by
      rw [q_w3.out]
      have := (Blk.new (((((w2.alloc (.cells #[.int .i64 (Cn.new 2 9).most, .int .i64 (Cn.new 2 9).credit, .int .i64 (Cn.new 2 9).state, .int .i64 (Cn.new 2 9).sq, .int .i64 (Cn.new 2 9).peer, .int .i64 (Cn.new 2 9).cc, .int .i64 (Cn.new 2 9).ms, .string (Cn.new 2 9).data] 59)).alloc (.cells #[] 85)).alloc (.cells #[.int .i64 1, .int .i64 1, .int .i64 0, .int .i64 0, .int .i64 0, .bool false, .string { data := #[] }] 85)).alloc (.cells #[.int .i64 0, .int .i64 0, .int .i64 0, .int .i64 2, .int .i64 7, .bool false, .string { data := #[] }] 85)).alloc (.cells #[.int .i64 1, .int .i64 1, .int .i64 0, .int .i64 0, .int .i64 0, .bool false, .string { data := #[] }, .int .i64 1, .int .i64 3, .int .i64 0, .int .i64 0, .int .i64 0, .bool false, .string { data := #[] }] 85)) 83 [.slice (some ⟨w2.heap.size + 1, 0, none⟩) 0 0, .slice (some ⟨w2.heap.size + 1 + 1, 0, none⟩) 1 1, .slice (some ⟨w2.heap.size + 1 + 1 + 1, 0, none⟩) 1 1, .slice (some ⟨w2.heap.size + 1 + 1 + 1 + 1, 0, none⟩) 2 2]).alloc (.cells #[.int .i64 0, .int .i64 0, .int .i64 0, .int .i64 2, .int .i64 7, .bool false, .string { data := #[] }, .int .i64 1, .int .i64 2, .int .i64 0, .int .i64 0, .int .i64 0, .bool false, .string { data := #[] }] 85)
      rwa [show (((((w2.alloc (.cells #[.int .i64 (Cn.new 2 9).most, .int .i64 (Cn.new 2 9).credit, .int .i64 (Cn.new 2 9).state, .int .i64 (Cn.new 2 9).sq, .int .i64 (Cn.new 2 9).peer, .int .i64 (Cn.new 2 9).cc, .int .i64 (Cn.new 2 9).ms, .string (Cn.new 2 9).data] 59)).alloc (.cells #[] 85)).alloc (.cells #[.int .i64 1, .int .i64 1, .int .i64 0, .int .i64 0, .int .i64 0, .bool false, .string { data := #[] }] 85)).alloc (.cells #[.int .i64 0, .int .i64 0, .int .i64 0, .int .i64 2, .int .i64 7, .bool false, .string { data := #[] }] 85)).alloc (.cells #[.int .i64 1, .int .i64 1, .int .i64 0, .int .i64 0, .int .i64 0, .bool false, .string { data := #[] }, .int .i64 1, .int .i64 3, .int .i64 0, .int .i64 0, .int .i64 0, .bool false, .string { data := #[] }] 85)).heap.size = w2.heap.size + 1 + 1 + 1 + 1 + 1 by simp] at this
  have HB6 : Blk w3 (w2.heap.size + 1 + 1 + 1 + 1 + 1 + 1) 85 [.int .i64 0, .int .i64 0, .int .i64 0, .int .i64 2, .int .i64 7, .bool false, .string { data := #[] }, .int .i64 1, .int .i64 2, .int .i64 0, .int .i64 0, .int .i64 0, .bool false, .string { data := #[] }] := by
      rw [q_w3.out]
      have := Blk.new ((((((w2.alloc (.cells #[.int .i64 (Cn.new 2 9).most, .int .i64 (Cn.new 2 9).credit, .int .i64 (Cn.new 2 9).state, .int .i64 (Cn.new 2 9).sq, .int .i64 (Cn.new 2 9).peer, .int .i64 (Cn.new 2 9).cc, .int .i64 (Cn.new 2 9).ms, .string (Cn.new 2 9).data] 59)).alloc (.cells #[] 85)).alloc (.cells #[.int .i64 1, .int .i64 1, .int .i64 0, .int .i64 0, .int .i64 0, .bool false, .string { data := #[] }] 85)).alloc (.cells #[.int .i64 0, .int .i64 0, .int .i64 0, .int .i64 2, .int .i64 7, .bool false, .string { data := #[] }] 85)).alloc (.cells #[.int .i64 1, .int .i64 1, .int .i64 0, .int .i64 0, .int .i64 0, .bool false, .string { data := #[] }, .int .i64 1, .int .i64 3, .int .i64 0, .int .i64 0, .int .i64 0, .bool false, .string { data := #[] }] 85)).alloc (.cells #[.slice (some ⟨w2.heap.size + 1, 0, none⟩) 0 0, .slice (some ⟨w2.heap.size + 1 + 1, 0, none⟩) 1 1, .slice (some ⟨w2.heap.size + 1 + 1 + 1, 0, none⟩) 1 1, .slice (some ⟨w2.heap.size + 1 + 1 + 1 + 1, 0, none⟩) 2 2] 83)) 85 [.int .i64 0, .int .i64 0, .int .i64 0, .int .i64 2, .int .i64 7, .bool false, .string { data := #[] }, .int .i64 1, .int .i64 2, .int .i64 0, .int .i64 0, .int .i64 0, .bool false, .string { data := #[] }]
      rwa [show ((((((w2.alloc (.cells #[.int .i64 (Cn.new 2 9).most, .int .i64 (Cn.new 2 9).credit, .int .i64 (Cn.new 2 9).state, .int .i64 (Cn.new 2 9).sq, .int .i64 (Cn.new 2 9).peer, .int .i64 (Cn.new 2 9).cc, .int .i64 (Cn.new 2 9).ms, .string (Cn.new 2 9).data] 59)).alloc (.cells #[] 85)).alloc (.cells #[.int .i64 1, .int .i64 1, .int .i64 0, .int .i64 0, .int .i64 0, .bool false, .string { data := #[] }] 85)).alloc (.cells #[.int .i64 0, .int .i64 0, .int .i64 0, .int .i64 2, .int .i64 7, .bool false, .string { data := #[] }] 85)).alloc (.cells #[.int .i64 1, .int .i64 1, .int .i64 0, .int .i64 0, .int .i64 0, .bool false, .string { data := #[] }, .int .i64 1, .int .i64 3, .int .i64 0, .int .i64 0, .int .i64 0, .bool false, .string { data := #[] }] 85)).alloc (.cells #[.slice (some ⟨w2.heap.size + 1, 0, none⟩) 0 0, .slice (some ⟨w2.heap.size + 1 + 1, 0, none⟩) 1 1, .slice (some ⟨w2.heap.size + 1 + 1 + 1, 0, none⟩) 1 1, .slice (some ⟨w2.heap.size + 1 + 1 + 1 + 1, 0, none⟩) 2 2] 83)).heap.size = w2.heap.size + 1 + 1 + 1 + 1 + 1 + 1 by simp] at this
  have hf3 : Fresh w2 w3 := by rw [q_w3.out]; exact (((((((Touch.refl _ w2).alloc _).alloc _).alloc _).alloc _).alloc _).alloc _).alloc _
  have HF3 : Hid (Fresh w w3) := HF2.out.trans hf3 (fun _ _ e => e)
  have HC3 : Hid (ConnAt w3 c (Cn.new 2 9)) := hf3.blk HC2.out (fun e => e)
  have HO3 := Lib.hid (hf3.blk HO2.out (fun e => e))
  have HCB : Hid (c < w2.heap.size) := Blk.lt HC2.out
  have HSZ : Hid (w.heap.size + 1 ≤ w2.heap.size) := by have := HO2.out.lt; unfold Hid; omega
  clear hf3 HF2 HC2 HO2
  rw [← q_w3.out]
  clear q_w3
  generalize w2.heap.size = b at *
  have HBX3 := Lib.hid HB0
  have S03 : Hid (Sl actE w3 (some ⟨b + 1, 0, none⟩) 0 ([] : List Cn.Ac)) := Sl.of_blk HB1 rfl rfl (by unfold maxLen; decide)
  have S13 : Hid (Sl actE w3 (some ⟨b + 1 + 1, 0, none⟩) 1 [Cn.ac 1 1 0 0 0]) := Sl.of_blk HB2 rfl rfl (by unfold maxLen; decide)
  have S23 : Hid (Sl actE w3 (some ⟨b + 1 + 1 + 1, 0, none⟩) 1 [Cn.ac 0 0 0 2 7]) := Sl.of_blk HB3 rfl rfl (by unfold maxLen; decide)
  have S33 : Hid (Sl actE w3 (some ⟨b + 1 + 1 + 1 + 1, 0, none⟩) 2 [Cn.ac 1 1 0 0 0, Cn.ac 1 3 0 0 0]) := Sl.of_blk HB4 rfl rfl (by unfold maxLen; decide)
  have SR3 : Hid (Sl actE w3 (some ⟨b + 1 + 1 + 1 + 1 + 1 + 1, 0, none⟩) 2 Cn.readyW) := Sl.of_blk HB6 rfl rfl (by unfold maxLen; decide)
  have SW3 : Hid (Sl rowE w3 (some ⟨b + 1 + 1 + 1 + 1 + 1, 0, none⟩) 4 [(⟨some ⟨b + 1, 0, none⟩, 0, 0⟩ : Rw), (⟨some ⟨b + 1 + 1, 0, none⟩, 1, 1⟩ : Rw), (⟨some ⟨b + 1 + 1 + 1, 0, none⟩, 1, 1⟩ : Rw), (⟨some ⟨b + 1 + 1 + 1 + 1, 0, none⟩, 2, 2⟩ : Rw)]) := Sl.of_blk HB5 rfl rfl (by unfold maxLen; decide)
  clear HB0 HB1 HB2 HB3 HB4 HB5 HB6
  go_upto_region 5 with (first
    | (at_builtin
       refine app_act rfl rfl (l := Cn.readyW) (l2 := [Cn.ac 1 4 0 0 0]) rfl rfl (SR3.out.alloc _).rd (Sl.rd (Sl.lit actE w3 _ rfl _ [Cn.ac 1 4 0 0 0] rfl _ rfl (by decide))) (by decide) (by decide) ?_
       intro AR4 cR4 LR4 w4 hLR4 hMR4
       have hf4 : Fresh w3 w4 := ((Touch.refl _ w3).alloc _).trans hMR4.fresh (fun _ _ e => e)
       have R44 := Lib.hid hMR4.sl
       clear hMR4
       have S04 := Lib.hid (S03.out.touch hf4 (fun _ _ e => e))
       have S14 := Lib.hid (S13.out.touch hf4 (fun _ _ e => e))
       have S24 := Lib.hid (S23.out.touch hf4 (fun _ _ e => e))
       have S34 := Lib.hid (S33.out.touch hf4 (fun _ _ e => e))
       have SR4 := Lib.hid (SR3.out.touch hf4 (fun _ _ e => e))
       have SW4 := Lib.hid (SW3.out.touch hf4 (fun _ _ e => e))
       have HF4 : Hid (Fresh w w4) := HF3.out.trans hf4 (fun _ _ e => e)
       have HC4 : Hid (ConnAt w4 c (Cn.new 2 9)) := hf4.blk HC3.out (fun e => e)
       have HO4 := Lib.hid (hf4.blk HO3.out (fun e => e))
       have HBX4 := Lib.hid (hf4.blk HBX3.out (fun e => e))
       clear S03 S13 S23 S33 SR3 SW3 HF3 HC3 HO3 HBX3
       clear hf4)
    | (at_builtin
       refine app_act rfl rfl (l := Cn.readyW) (l2 := [Cn.ac 0 0 4 2 8]) rfl rfl (SR4.out.alloc _).rd (Sl.rd (Sl.lit actE w4 _ rfl _ [Cn.ac 0 0 4 2 8] rfl _ rfl (by decide))) (by decide) (by decide) ?_
       intro AR5 cR5 LR5 w5 hLR5 hMR5
       have hf5 : Fresh w4 w5 := ((Touch.refl _ w4).alloc _).trans hMR5.fresh (fun _ _ e => e)
       have R55 := Lib.hid hMR5.sl
       clear hMR5
       have S05 := Lib.hid (S04.out.touch hf5 (fun _ _ e => e))
       have S15 := Lib.hid (S14.out.touch hf5 (fun _ _ e => e))
       have S25 := Lib.hid (S24.out.touch hf5 (fun _ _ e => e))
       have S35 := Lib.hid (S34.out.touch hf5 (fun _ _ e => e))
       have SR5 := Lib.hid (SR4.out.touch hf5 (fun _ _ e => e))
       have SW5 := Lib.hid (SW4.out.touch hf5 (fun _ _ e => e))
       have R45 := Lib.hid (R44.out.touch hf5 (fun _ _ e => e))
       have HF5 : Hid (Fresh w w5) := HF4.out.trans hf5 (fun _ _ e => e)
       have HC5 : Hid (ConnAt w5 c (Cn.new 2 9)) := hf5.blk HC4.out (fun e => e)
       have HO5 := Lib.hid (hf5.blk HO4.out (fun e => e))
       have HBX5 := Lib.hid (hf5.blk HBX4.out (fun e => e))
       clear S04 S14 S24 S34 SR4 SW4 R44 HF4 HC4 HO4 HBX4
       clear hf5)
    | (at_builtin
       refine app_act rfl rfl (l := Cn.readyW) (l2 := [Cn.ac 3 81 0 0 0]) rfl rfl (SR5.out.alloc _).rd (Sl.rd (Sl.lit actE w5 _ rfl _ [Cn.ac 3 81 0 0 0] rfl _ rfl (by decide))) (by decide) (by decide) ?_
       intro AR6 cR6 LR6 w6 hLR6 hMR6
       have hf6 : Fresh w5 w6 := ((Touch.refl _ w5).alloc _).trans hMR6.fresh (fun _ _ e => e)
       have R66 := Lib.hid hMR6.sl
       clear hMR6
       have S06 := Lib.hid (S05.out.touch hf6 (fun _ _ e => e))
       have S16 := Lib.hid (S15.out.touch hf6 (fun _ _ e => e))
       have S26 := Lib.hid (S25.out.touch hf6 (fun _ _ e => e))
       have S36 := Lib.hid (S35.out.touch hf6 (fun _ _ e => e))
       have SR6 := Lib.hid (SR5.out.touch hf6 (fun _ _ e => e))
       have SW6 := Lib.hid (SW5.out.touch hf6 (fun _ _ e => e))
       have R46 := Lib.hid (R45.out.touch hf6 (fun _ _ e => e))
       have R56 := Lib.hid (R55.out.touch hf6 (fun _ _ e => e))
       have HF6 : Hid (Fresh w w6) := HF5.out.trans hf6 (fun _ _ e => e)
       have HC6 : Hid (ConnAt w6 c (Cn.new 2 9)) := hf6.blk HC5.out (fun e => e)
       have HO6 := Lib.hid (hf6.blk HO5.out (fun e => e))
       have HBX6 := Lib.hid (hf6.blk HBX5.out (fun e => e))
       clear S05 S15 S25 S35 SR5 SW5 R45 R55 HF5 HC5 HO5 HBX5
       clear hf6)
    | (at_builtin
       refine app_row rfl rfl (l := [(⟨some ⟨b + 1, 0, none⟩, 0, 0⟩ : Rw), (⟨some ⟨b + 1 + 1, 0, none⟩, 1, 1⟩ : Rw), (⟨some ⟨b + 1 + 1 + 1, 0, none⟩, 1, 1⟩ : Rw), (⟨some ⟨b + 1 + 1 + 1 + 1, 0, none⟩, 2, 2⟩ : Rw)]) (l2 := [(⟨AR4, LR4.length, cR4⟩ : Rw), (⟨AR5, LR5.length, cR5⟩ : Rw), (⟨AR6, LR6.length, cR6⟩ : Rw)]) rfl rfl (SW6.out.alloc _) (Sl.rd (Sl.lit rowE w6 _ rfl _ [(⟨AR4, LR4.length, cR4⟩ : Rw), (⟨AR5, LR5.length, cR5⟩ : Rw), (⟨AR6, LR6.length, cR6⟩ : Rw)] rfl _ rfl (by decide))) (by simp) ?_
       intro AW7 cW7 LW7 w7 hLW7 hsW7 htW7 hAW7
       have S07 := Lib.hid ((S06.out.alloc _).other (SW6.out.alloc _) htW7 (by decide))
       have S17 := Lib.hid ((S16.out.alloc _).other (SW6.out.alloc _) htW7 (by decide))
       have S27 := Lib.hid ((S26.out.alloc _).other (SW6.out.alloc _) htW7 (by decide))
       have S37 := Lib.hid ((S36.out.alloc _).other (SW6.out.alloc _) htW7 (by decide))
       have SR7 := Lib.hid ((SR6.out.alloc _).other (SW6.out.alloc _) htW7 (by decide))
       have R47 := Lib.hid ((R46.out.alloc _).other (SW6.out.alloc _) htW7 (by decide))
       have R57 := Lib.hid ((R56.out.alloc _).other (SW6.out.alloc _) htW7 (by decide))
       have R67 := Lib.hid ((R66.out.alloc _).other (SW6.out.alloc _) htW7 (by decide))
       have HF7 : Hid (Fresh w w7) := Fresh.other (HF6.out.alloc _) (SW6.out.alloc _) htW7 (fun ad e => by injection e with e; subst e; have := HSZ.out; simp only; omega)
       have HC7 : Hid (ConnAt w7 c (Cn.new 2 9)) := Blk.other (Blk.alloc HC6.out _) (SW6.out.alloc _) htW7 (by decide)
       have HO7 := Lib.hid (Blk.other (Blk.alloc HO6.out _) (SW6.out.alloc _) htW7 (by decide))
       have HBX7 := Lib.hid (Blk.other (Blk.alloc HBX6.out _) (SW6.out.alloc _) htW7 (by decide))
       have HW7 : Hid (∀ ad, AW7 = some ad → w.heap.size ≤ ad.block) := fun ad e => by { subst e; have hz := HF6.out.size; rcases hAW7 with e | e; { have := HSZ.out; simp at e; omega }; { simp at e; omega } }
       have SW7 := Lib.hid hsW7
       have HLW7 : Hid (LW7.length = 7) := by { unfold Hid; rw [hLW7.out]; rfl }
       clear hsW7 htW7 hAW7 S06 S16 S26 S36 SR6 SW6 R46 R56 R66 HF6 HC6 HO6 HBX6))
  go_upto_region 6 with (first
    | (at_builtin
       refine app_act rfl rfl (l := Cn.readyW) (l2 := [Cn.ac 3 81 0 0 0, Cn.ac 0 0 14 0 0]) rfl rfl (SR7.out.alloc _).rd (Sl.rd (Sl.lit actE w7 _ rfl _ [Cn.ac 3 81 0 0 0, Cn.ac 0 0 14 0 0] rfl _ rfl (by decide))) (by decide) (by decide) ?_
       intro AR7 cR7 LR7 w8 hLR7 hMR7
       have hf8 : Fresh w7 w8 := ((Touch.refl _ w7).alloc _).trans hMR7.fresh (fun _ _ e => e)
       have R78 := Lib.hid hMR7.sl
       clear hMR7
       have S08 := Lib.hid (S07.out.touch hf8 (fun _ _ e => e))
       have S18 := Lib.hid (S17.out.touch hf8 (fun _ _ e => e))
       have S28 := Lib.hid (S27.out.touch hf8 (fun _ _ e => e))
       have S38 := Lib.hid (S37.out.touch hf8 (fun _ _ e => e))
       have SR8 := Lib.hid (SR7.out.touch hf8 (fun _ _ e => e))
       have SW8 := Lib.hid (SW7.out.touch hf8 (fun _ _ e => e))
       have R48 := Lib.hid (R47.out.touch hf8 (fun _ _ e => e))
       have R58 := Lib.hid (R57.out.touch hf8 (fun _ _ e => e))
       have R68 := Lib.hid (R67.out.touch hf8 (fun _ _ e => e))
       have HF8 : Hid (Fresh w w8) := HF7.out.trans hf8 (fun _ _ e => e)
       have HC8 : Hid (ConnAt w8 c (Cn.new 2 9)) := hf8.blk HC7.out (fun e => e)
       have HO8 := Lib.hid (hf8.blk HO7.out (fun e => e))
       have HBX8 := Lib.hid (hf8.blk HBX7.out (fun e => e))
       clear S07 S17 S27 S37 SR7 SW7 R47 R57 R67 HF7 HC7 HO7 HBX7
       clear hf8)
    | (at_builtin
       refine app_act rfl rfl (l := Cn.readyW) (l2 := [Cn.ac 0 0 8 2 8]) rfl rfl (SR8.out.alloc _).rd (Sl.rd (Sl.lit actE w8 _ rfl _ [Cn.ac 0 0 8 2 8] rfl _ rfl (by decide))) (by decide) (by decide) ?_
       intro AR8 cR8 LR8 w9 hLR8 hMR8
       have hf9 : Fresh w8 w9 := ((Touch.refl _ w8).alloc _).trans hMR8.fresh (fun _ _ e => e)
       have R89 := Lib.hid hMR8.sl
       clear hMR8
       have S09 := Lib.hid (S08.out.touch hf9 (fun _ _ e => e))
       have S19 := Lib.hid (S18.out.touch hf9 (fun _ _ e => e))
       have S29 := Lib.hid (S28.out.touch hf9 (fun _ _ e => e))
       have S39 := Lib.hid (S38.out.touch hf9 (fun _ _ e => e))
       have SR9 := Lib.hid (SR8.out.touch hf9 (fun _ _ e => e))
       have SW9 := Lib.hid (SW8.out.touch hf9 (fun _ _ e => e))
       have R49 := Lib.hid (R48.out.touch hf9 (fun _ _ e => e))
       have R59 := Lib.hid (R58.out.touch hf9 (fun _ _ e => e))
       have R69 := Lib.hid (R68.out.touch hf9 (fun _ _ e => e))
       have R79 := Lib.hid (R78.out.touch hf9 (fun _ _ e => e))
       have HF9 : Hid (Fresh w w9) := HF8.out.trans hf9 (fun _ _ e => e)
       have HC9 : Hid (ConnAt w9 c (Cn.new 2 9)) := hf9.blk HC8.out (fun e => e)
       have HO9 := Lib.hid (hf9.blk HO8.out (fun e => e))
       have HBX9 := Lib.hid (hf9.blk HBX8.out (fun e => e))
       clear S08 S18 S28 S38 SR8 SW8 R48 R58 R68 R78 HF8 HC8 HO8 HBX8
       clear hf9)
    | (at_builtin
       refine app_row rfl rfl (l := LW7) (l2 := [(⟨AR7, LR7.length, cR7⟩ : Rw), (⟨AR8, LR8.length, cR8⟩ : Rw), (⟨some ⟨b + 1 + 1 + 1 + 1 + 1 + 1, 0, none⟩, 2, 2⟩ : Rw)]) rfl rfl (SW9.out.alloc _) (Sl.rd (Sl.lit rowE w9 _ rfl _ [(⟨AR7, LR7.length, cR7⟩ : Rw), (⟨AR8, LR8.length, cR8⟩ : Rw), (⟨some ⟨b + 1 + 1 + 1 + 1 + 1 + 1, 0, none⟩, 2, 2⟩ : Rw)] rfl _ rfl (by decide))) (by have := HLW7.out; simp; omega) ?_
       intro AW10 cW10 LW10 w10 hLW10 hsW10 htW10 hAW10
       have S010 := Lib.hid ((S09.out.alloc _).other (SW9.out.alloc _) htW10 (by decide))
       have S110 := Lib.hid ((S19.out.alloc _).other (SW9.out.alloc _) htW10 (by decide))
       have S210 := Lib.hid ((S29.out.alloc _).other (SW9.out.alloc _) htW10 (by decide))
       have S310 := Lib.hid ((S39.out.alloc _).other (SW9.out.alloc _) htW10 (by decide))
       have SR10 := Lib.hid ((SR9.out.alloc _).other (SW9.out.alloc _) htW10 (by decide))
       have R410 := Lib.hid ((R49.out.alloc _).other (SW9.out.alloc _) htW10 (by decide))
       have R510 := Lib.hid ((R59.out.alloc _).other (SW9.out.alloc _) htW10 (by decide))
       have R610 := Lib.hid ((R69.out.alloc _).other (SW9.out.alloc _) htW10 (by decide))
       have R710 := Lib.hid ((R79.out.alloc _).other (SW9.out.alloc _) htW10 (by decide))
       have R810 := Lib.hid ((R89.out.alloc _).other (SW9.out.alloc _) htW10 (by decide))
       have HF10 : Hid (Fresh w w10) := Fresh.other (HF9.out.alloc _) (SW9.out.alloc _) htW10 (HW7.out)
       have HC10 : Hid (ConnAt w10 c (Cn.new 2 9)) := Blk.other (Blk.alloc HC9.out _) (SW9.out.alloc _) htW10 (by decide)
       have HO10 := Lib.hid (Blk.other (Blk.alloc HO9.out _) (SW9.out.alloc _) htW10 (by decide))
       have HBX10 := Lib.hid (Blk.other (Blk.alloc HBX9.out _) (SW9.out.alloc _) htW10 (by decide))
       have HW10 : Hid (∀ ad, AW10 = some ad → w.heap.size ≤ ad.block) := fun ad e => by { subst e; have hz := HF9.out.size; rcases hAW10 with e | e; { cases hA : AW7 with | none => (rw [hA] at e; cases e) | some ad1 => (have h1 := HW7.out ad1 hA; rw [hA] at e; simp at e; omega) }; { simp at e; omega } }
       have SW10 := Lib.hid hsW10
       have HLW10 : Hid (LW10.length = 10) := by { unfold Hid; rw [hLW10.out]; have := HLW7.out; simp; omega }
       clear hsW10 htW10 hAW10 S09 S19 S29 S39 SR9 SW9 R49 R59 R69 R79 R89 HF9 HC9 HO9 HBX9))
  have HLL : Hid (LW10 = [(⟨some ⟨b + 1, 0, none⟩, 0, 0⟩ : Rw), (⟨some ⟨b + 1 + 1, 0, none⟩, 1, 1⟩ : Rw), (⟨some ⟨b + 1 + 1 + 1, 0, none⟩, 1, 1⟩ : Rw), (⟨some ⟨b + 1 + 1 + 1 + 1, 0, none⟩, 2, 2⟩ : Rw)] ++ [(⟨AR4, LR4.length, cR4⟩ : Rw), ⟨AR5, LR5.length, cR5⟩, ⟨AR6, LR6.length, cR6⟩] ++ [(⟨AR7, LR7.length, cR7⟩ : Rw), ⟨AR8, LR8.length, cR8⟩, ⟨some ⟨b + 1 + 1 + 1 + 1 + 1 + 1, 0, none⟩, 2, 2⟩]) := by unfold Hid; rw [hLW10.out, hLW7.out]
  have hkl : k < LW10.length := by have := HLW10.out; omega
  obtain ⟨gW, oW, hAWe, hgW, hcW⟩ := SW10.out.at_ k hkl
  have hcW0 : w10.cell? ⟨gW, oW + k, none⟩ = some (.slice LW10[k].A LW10[k].n LW10[k].c) := by have := hcW 0 _ rfl; simpa [rowE] using this
  have hrow : Sl actE w10 LW10[k].A LW10[k].c (Cn.ways.getD k []) ∧ LW10[k].n = (Cn.ways.getD k []).length := by
    have hl := HLL.out
    clear hcW hcW0
    subst hl
    rcases (show k = 0 ∨ k = 1 ∨ k = 2 ∨ k = 3 ∨ k = 4 ∨ k = 5 ∨ k = 6 ∨ k = 7 ∨ k = 8 ∨ k = 9 by omega) with e | e | e | e | e | e | e | e | e | e <;> subst e
    · exact ⟨S010.out, rfl⟩
    · exact ⟨S110.out, rfl⟩
    · exact ⟨S210.out, rfl⟩
    · exact ⟨S310.out, rfl⟩
    · exact ⟨by have := R410.out; rw [hLR4.out] at this; exact this, by show LR4.length = _; rw [hLR4.out]; rfl⟩
    · exact ⟨by have := R510.out; rw [hLR5.out] at this; exact this, by show LR5.length = _; rw [hLR5.out]; rfl⟩
    · exact ⟨by have := R610.out; rw [hLR6.out] at this; exact this, by show LR6.length = _; rw [hLR6.out]; rfl⟩
    · exact ⟨by have := R710.out; rw [hLR7.out] at this; exact this, by show LR7.length = _; rw [hLR7.out]; rfl⟩
    · exact ⟨by have := R810.out; rw [hLR8.out] at this; exact this, by show LR8.length = _; rw [hLR8.out]; rfl⟩
    · exact ⟨SR10.out, rfl⟩
  obtain ⟨hrow1, hrow2⟩ := hrow
  rw [hrow2] at hcW0
  have HRO := Lib.hid hrow1
  have HOKH := Lib.hid hok
  clear hrow1 hrow2 hcW hok
  generalize LW10[k].A = A at *
  generalize LW10[k].c = cA at *
  obtain ⟨l, hl⟩ : ∃ l, Cn.ways.getD k [] = l := ⟨_, rfl⟩
  have HLE := Lib.hid hl
  rw [hl] at HRO hcW0 HOKH
  clear hl
  subst hAWe
  have hlen : l.length ≤ 4 := by rw [← HLE.out]; rcases (show k = 0 ∨ k = 1 ∨ k = 2 ∨ k = 3 ∨ k = 4 ∨ k = 5 ∨ k = 6 ∨ k = 7 ∨ k = 8 ∨ k = 9 by omega) with e | e | e | e | e | e | e | e | e | e <;> subst e <;> decide
  have hk9 : (k : Int) + 1 ≤ 10 := by omega
  have hk9b : (k : Int) < 10 := by omega
  skip
  have HLW10x := HLW10.out
  go_wp2_with fail
  go_loopw [59] (fun i wr => ∃ j : Nat, j ≤ l.length ∧ i = .int .i64 j ∧ Hid (ConnAt wr c (Cn.run (l.take j))) ∧ Hid (Cn.Ok (Cn.run (l.take j))) ∧ Hid (Blk wr b 59 (rcCells (Cn.run (l.take j)))) ∧ Hid (Blk wr w.heap.size 59 [.int .i64 0, .int .i64 0, .int .i64 0, .int .i64 0, .int .i64 0, .int .i64 0, .int .i64 0, .string { data := #[] }]) ∧ Hid (Sl actE wr A cA l) ∧ Hid (Fresh w wr)) (fun i _ => l.length - (intOf i).toNat)
  case atStart => exact ⟨0, by omega, rfl, HC10, HO1, HBX10, HO10, HRO, HF10⟩
  case round =>
    obtain ⟨j, hjl, rfl, hc, ho, hb, hout, hr, hf⟩ := hrel
    by_cases hj : j < l.length
    · have hd : decide ((j : Int) < (l.length : Int)) = true := decide_eq_true (by omega)
      have hjI : (j : Int) < (l.length : Int) := by omega
      obtain ⟨act, res, may⟩ := HOKH.out j hj
      have hnx : Hid (Cn.run (l.take (j + 1)) = (Cn.stepS (Cn.run (l.take j)) l[j]).1) := by unfold Hid Cn.run; rw [← List.take_append_getElem hj, List.foldl_append]; rfl
      obtain ⟨g, oA, rfl, hg, hA⟩ := hr.out.at_ j hj
      have HAct := Lib.hid act
      have HRes := Lib.hid res
      have HMayA := Lib.hid may
      clear act res may
      generalize l[j] = a at *
      generalize Cn.run (List.take j l) = s at *
      have y0 : wr.cell? ⟨g, oA + j * 7, none⟩ = some (.int .i64 a.kind) := by have := hA 0 _ rfl; simpa [actE, Nat.add_assoc] using this
      have y1 : wr.cell? ⟨g, oA + j * 7 + 1, none⟩ = some (.int .i64 a.n) := by have := hA 1 _ rfl; simpa [actE, Nat.add_assoc] using this
      have y2 : wr.cell? ⟨g, oA + j * 7 + 2, none⟩ = some (.int .i64 a.unit) := by have := hA 2 _ rfl; simpa [actE, Nat.add_assoc] using this
      have y3 : wr.cell? ⟨g, oA + j * 7 + 3, none⟩ = some (.int .i64 a.which) := by have := hA 3 _ rfl; simpa [actE, Nat.add_assoc] using this
      have y4 : wr.cell? ⟨g, oA + j * 7 + 4, none⟩ = some (.int .i64 a.sq) := by have := hA 4 _ rfl; simpa [actE, Nat.add_assoc] using this
      have y5 : wr.cell? ⟨g, oA + j * 7 + 5, none⟩ = some (.bool a.self) := by have := hA 5 _ rfl; simpa [actE, Nat.add_assoc] using this
      have y6 : wr.cell? ⟨g, oA + j * 7 + 6, none⟩ = some (.string a.data) := by have := hA 6 _ rfl; simpa [actE, Nat.add_assoc] using this
      go_upto_region 9 with (fail)
      have ta : Fresh wr (wr.alloc (.cells #[.int .i64 a.kind, .int .i64 a.n, .int .i64 a.unit, .int .i64 a.which, .int .i64 a.sq, .bool a.self, .string a.data] 85)) := (Touch.refl (fun _ => False) wr).alloc _
      have ba : Blk (wr.alloc (.cells #[.int .i64 a.kind, .int .i64 a.n, .int .i64 a.unit, .int .i64 a.which, .int .i64 a.sq, .bool a.self, .string a.data] 85)) wr.heap.size 85 [.int .i64 a.kind, .int .i64 a.n, .int .i64 a.unit, .int .i64 a.which, .int .i64 a.sq, .bool a.self, .string a.data] := Blk.new wr 85 [.int .i64 a.kind, .int .i64 a.n, .int .i64 a.unit, .int .i64 a.which, .int .i64 a.sq, .bool a.self, .string a.data]
      have hc2 : ConnAt (wr.alloc (.cells #[.int .i64 a.kind, .int .i64 a.n, .int .i64 a.unit, .int .i64 a.which, .int .i64 a.sq, .bool a.self, .string a.data] 85)) c s := ta.blk hc.out (fun e => e)
      have hb2 : Blk (wr.alloc (.cells #[.int .i64 a.kind, .int .i64 a.n, .int .i64 a.unit, .int .i64 a.which, .int .i64 a.sq, .bool a.self, .string a.data] 85)) b 59 (rcCells s) := ta.blk hb.out (fun e => e)
      have hout2 := Lib.hid (ta.blk hout.out (fun e => e))
      have hr2 := Lib.hid (hr.out.touch ta (fun _ _ e => e))
      have hf2 : Hid (Fresh w (wr.alloc (.cells #[.int .i64 a.kind, .int .i64 a.n, .int .i64 a.unit, .int .i64 a.which, .int .i64 a.sq, .bool a.self, .string a.data] 85))) := hf.out.trans ta (fun _ _ e => e)
      have hbs : Hid (b < wr.heap.size) := hb.out.lt
      clear ta hc hb hout hr hf hA hcW0 y0 y1 y2 y3 y4 y5 y6
      generalize (wr.alloc (.cells #[.int .i64 a.kind, .int .i64 a.n, .int .i64 a.unit, .int .i64 a.which, .int .i64 a.sq, .bool a.self, .string a.data] 85)) = wa at *
      generalize wr.heap.size = ga at *
      have x0 : wa.cell? ⟨b, 0, none⟩ = some (.int .i64 s.most) := hb2.cell 0
      have x1 : wa.cell? ⟨b, 1, none⟩ = some (.int .i64 s.credit) := hb2.cell 1
      have x2 : wa.cell? ⟨b, 2, none⟩ = some (.int .i64 s.state) := hb2.cell 2
      have x3 : wa.cell? ⟨b, 3, none⟩ = some (.int .i64 s.sq) := hb2.cell 3
      have x4 : wa.cell? ⟨b, 4, none⟩ = some (.int .i64 s.peer) := hb2.cell 4
      have x5 : wa.cell? ⟨b, 5, none⟩ = some (.int .i64 s.cc) := hb2.cell 5
      have x6 : wa.cell? ⟨b, 6, none⟩ = some (.int .i64 s.ms) := hb2.cell 6
      have x7 : wa.cell? ⟨b, 7, none⟩ = some (.string s.data) := hb2.cell 7
      have y0 : wa.cell? ⟨ga, 0, none⟩ = some (.int .i64 a.kind) := ba.cell 0
      have y1 : wa.cell? ⟨ga, 1, none⟩ = some (.int .i64 a.n) := ba.cell 1
      have y2 : wa.cell? ⟨ga, 2, none⟩ = some (.int .i64 a.unit) := ba.cell 2
      have y3 : wa.cell? ⟨ga, 3, none⟩ = some (.int .i64 a.which) := ba.cell 3
      have y4 : wa.cell? ⟨ga, 4, none⟩ = some (.int .i64 a.sq) := ba.cell 4
      have y5 : wa.cell? ⟨ga, 5, none⟩ = some (.bool a.self) := ba.cell 5
      have y6 : wa.cell? ⟨ga, 6, none⟩ = some (.string a.data) := ba.cell 6
      have HB2 := Lib.hid hb2
      clear ba hb2
      have HC2 : Hid (ConnAt wa c s) := hc2
      clear hc2
      go_wp2_with fail
      refine (step_at HC2.out ho.out a HAct.out HRes.out HMayA.out).mono ?_
      rintro e wb ⟨P, rfl, hc3, ho3, ht3⟩
      simp only [rcV, rrV]
      rw [← hnx.out] at hc3 ho3 ⊢
      have HC3 := Lib.hid hc3
      have HO3 := Lib.hid ho3
      have hb3 := ht3.blk HB2.out (by intro e; have e : b = c := e; have := HCB.out; omega)
      have hout3 := Lib.hid (ht3.blk hout2.out (by intro e; have e : w.heap.size = c := e; have := HCC.out; omega))
      have hr3 := Lib.hid (hr2.out.touch ht3 (fun ad e h => by have h : ad.block = c := h; have := (hr2.out.blk_ne HC2.out (by decide) ad e); exact this h))
      have hf3 : Hid (Fresh w wb) := hf2.out.trans ht3 (fun k hk e => by have e : k = c := e; have := HCC.out; omega)
      clear x0 x1 x2 x3 x4 x5 x6 x7 y0 y1 y2 y3 y4 y5 y6 hc3 ho3 ht3 hout2 hr2 hf2 HB2 HC2 HAct HRes HMayA
      obtain ⟨s2, hs2⟩ : ∃ s2, Cn.run (List.take (j + 1) l) = s2 := ⟨_, rfl⟩
      have HS2 := Lib.hid hs2
      rw [hs2] at HC3 HO3 ⊢
      clear hs2 hnx
      have x0 : wb.cell? ⟨b, 0, none⟩ = some (.int .i64 s.most) := hb3.cell 0
      have f0 := hb3.frozen 0
      have x1 : wb.cell? ⟨b, 1, none⟩ = some (.int .i64 s.credit) := hb3.cell 1
      have f1 := hb3.frozen 1
      have x2 : wb.cell? ⟨b, 2, none⟩ = some (.int .i64 s.state) := hb3.cell 2
      have f2 := hb3.frozen 2
      have x3 : wb.cell? ⟨b, 3, none⟩ = some (.int .i64 s.sq) := hb3.cell 3
      have f3 := hb3.frozen 3
      have x4 : wb.cell? ⟨b, 4, none⟩ = some (.int .i64 s.peer) := hb3.cell 4
      have f4 := hb3.frozen 4
      have x5 : wb.cell? ⟨b, 5, none⟩ = some (.int .i64 s.cc) := hb3.cell 5
      have f5 := hb3.frozen 5
      have x6 : wb.cell? ⟨b, 6, none⟩ = some (.int .i64 s.ms) := hb3.cell 6
      have f6 := hb3.frozen 6
      have x7 : wb.cell? ⟨b, 7, none⟩ = some (.string s.data) := hb3.cell 7
      have f7 := hb3.frozen 7
      have HB3 := Lib.hid hb3
      clear hb3
      go_upto_region 10 with (fail)
      obtain ⟨wc, q0⟩ : ∃ x : World, x = ((((((((wb.setCell ⟨b, 0, none⟩ (.int .i64 s2.most)).setCell ⟨b, 1, none⟩ (.int .i64 s2.credit)).setCell ⟨b, 2, none⟩ (.int .i64 s2.state)).setCell ⟨b, 3, none⟩ (.int .i64 s2.sq)).setCell ⟨b, 4, none⟩ (.int .i64 s2.peer)).setCell ⟨b, 5, none⟩ (.int .i64 s2.cc)).setCell ⟨b, 6, none⟩ (.int .i64 s2.ms)).setCell ⟨b, 7, none⟩ (.string s2.data)) := ⟨_, rfl⟩
      have q_wc := Lib.hid q0
      clear q0
      have ta : Touch (· = b) wb wc := by rw [q_wc.out]; exact (((((((((Touch.refl (· = b) wb).st (S := (· = b)) (u := .int .i64 s2.most) (by exact rfl)).st (S := (· = b)) (u := .int .i64 s2.credit) (by exact rfl)).st (S := (· = b)) (u := .int .i64 s2.state) (by exact rfl)).st (S := (· = b)) (u := .int .i64 s2.sq) (by exact rfl)).st (S := (· = b)) (u := .int .i64 s2.peer) (by exact rfl)).st (S := (· = b)) (u := .int .i64 s2.cc) (by exact rfl)).st (S := (· = b)) (u := .int .i64 s2.ms) (by exact rfl)).st (S := (· = b)) (u := .string s2.data) (by exact rfl))
      have hb4 : Hid (Blk wc b 59 (rcCells s2)) := by rw [q_wc.out]; exact ((((((((HB3.out.set 0 (.int .i64 s2.most)).set 1 (.int .i64 s2.credit)).set 2 (.int .i64 s2.state)).set 3 (.int .i64 s2.sq)).set 4 (.int .i64 s2.peer)).set 5 (.int .i64 s2.cc)).set 6 (.int .i64 s2.ms)).set 7 (.string s2.data))
      have hc4 : Hid (ConnAt wc c s2) := ta.blk HC3.out (by intro e; have e : c = b := e; have := HCB.out; omega)
      have hout4 := Lib.hid (ta.blk hout3.out (by intro e; have e : w.heap.size = b := e; have := HSZ.out; omega))
      have hr4 := Lib.hid (hr3.out.touch ta (fun ad e h => by have h : ad.block = b := h; have := (hr3.out.blk_ne HB3.out (by decide) ad e); exact this h))
      have hf4 : Hid (Fresh w wc) := hf3.out.trans ta (fun k hk e => by have e : k = b := e; have := HSZ.out; omega)
      clear ta HC3 hout3 hr3 hf3 HB3 x0 f0 x1 f1 x2 f2 x3 f3 x4 f4 x5 f5 x6 f6 x7 f7
      rw [← q_wc.out]
      clear q_wc
      go_wp2
      go_roundw
      case rel => exact ⟨j + 1, by omega, by go_num, by rw [HS2.out]; exact hc4, by rw [HS2.out]; exact HO3, by rw [HS2.out]; exact hb4, hout4, hr4, hf4⟩
      case measure => simp [intOf]; omega
    · obtain rfl : j = l.length := by omega
      have hd : decide ((l.length : Int) < (l.length : Int)) = false := decide_eq_false (by omega)
      rw [List.take_length, ← HLE.out] at hc ho hb
      obtain ⟨s, hs⟩ : ∃ s, Cn.run (Cn.ways.getD k []) = s := ⟨_, rfl⟩
      rw [hs] at hc ho hb
      have HS := Lib.hid hs
      clear hs
      have hnb : w.heap.size ≠ b := by have := HSZ.out; omega
      have x0 : wr.cell? ⟨b, 0, none⟩ = some (.int .i64 s.most) := hb.out.cell 0
      have z0 : wr.cell? ⟨w.heap.size, 0, none⟩ = some (.int .i64 0) := hout.out.cell 0
      have f0 := hout.out.frozen 0
      have x1 : wr.cell? ⟨b, 1, none⟩ = some (.int .i64 s.credit) := hb.out.cell 1
      have z1 : wr.cell? ⟨w.heap.size, 1, none⟩ = some (.int .i64 0) := hout.out.cell 1
      have f1 := hout.out.frozen 1
      have x2 : wr.cell? ⟨b, 2, none⟩ = some (.int .i64 s.state) := hb.out.cell 2
      have z2 : wr.cell? ⟨w.heap.size, 2, none⟩ = some (.int .i64 0) := hout.out.cell 2
      have f2 := hout.out.frozen 2
      have x3 : wr.cell? ⟨b, 3, none⟩ = some (.int .i64 s.sq) := hb.out.cell 3
      have z3 : wr.cell? ⟨w.heap.size, 3, none⟩ = some (.int .i64 0) := hout.out.cell 3
      have f3 := hout.out.frozen 3
      have x4 : wr.cell? ⟨b, 4, none⟩ = some (.int .i64 s.peer) := hb.out.cell 4
      have z4 : wr.cell? ⟨w.heap.size, 4, none⟩ = some (.int .i64 0) := hout.out.cell 4
      have f4 := hout.out.frozen 4
      have x5 : wr.cell? ⟨b, 5, none⟩ = some (.int .i64 s.cc) := hb.out.cell 5
      have z5 : wr.cell? ⟨w.heap.size, 5, none⟩ = some (.int .i64 0) := hout.out.cell 5
      have f5 := hout.out.frozen 5
      have x6 : wr.cell? ⟨b, 6, none⟩ = some (.int .i64 s.ms) := hb.out.cell 6
      have z6 : wr.cell? ⟨w.heap.size, 6, none⟩ = some (.int .i64 0) := hout.out.cell 6
      have f6 := hout.out.frozen 6
      have x7 : wr.cell? ⟨b, 7, none⟩ = some (.string s.data) := hb.out.cell 7
      have z7 : wr.cell? ⟨w.heap.size, 7, none⟩ = some (.string { data := #[] }) := hout.out.cell 7
      have f7 := hout.out.frozen 7
      go_wp2_with fail
      go_region
      all_goals
        have ta : Touch (· = w.heap.size) wr ((((((((wr.setCell ⟨w.heap.size, 0, none⟩ (.int .i64 s.most)).setCell ⟨w.heap.size, 1, none⟩ (.int .i64 s.credit)).setCell ⟨w.heap.size, 2, none⟩ (.int .i64 s.state)).setCell ⟨w.heap.size, 3, none⟩ (.int .i64 s.sq)).setCell ⟨w.heap.size, 4, none⟩ (.int .i64 s.peer)).setCell ⟨w.heap.size, 5, none⟩ (.int .i64 s.cc)).setCell ⟨w.heap.size, 6, none⟩ (.int .i64 s.ms)).setCell ⟨w.heap.size, 7, none⟩ (.string s.data)).drew := ((((((((((Touch.refl (· = w.heap.size) wr).st (S := (· = w.heap.size)) (u := .int .i64 s.most) (by exact rfl)).st (S := (· = w.heap.size)) (u := .int .i64 s.credit) (by exact rfl)).st (S := (· = w.heap.size)) (u := .int .i64 s.state) (by exact rfl)).st (S := (· = w.heap.size)) (u := .int .i64 s.sq) (by exact rfl)).st (S := (· = w.heap.size)) (u := .int .i64 s.peer) (by exact rfl)).st (S := (· = w.heap.size)) (u := .int .i64 s.cc) (by exact rfl)).st (S := (· = w.heap.size)) (u := .int .i64 s.ms) (by exact rfl)).st (S := (· = w.heap.size)) (u := .string s.data) (by exact rfl))).drew
        have hbo : Blk ((((((((wr.setCell ⟨w.heap.size, 0, none⟩ (.int .i64 s.most)).setCell ⟨w.heap.size, 1, none⟩ (.int .i64 s.credit)).setCell ⟨w.heap.size, 2, none⟩ (.int .i64 s.state)).setCell ⟨w.heap.size, 3, none⟩ (.int .i64 s.sq)).setCell ⟨w.heap.size, 4, none⟩ (.int .i64 s.peer)).setCell ⟨w.heap.size, 5, none⟩ (.int .i64 s.cc)).setCell ⟨w.heap.size, 6, none⟩ (.int .i64 s.ms)).setCell ⟨w.heap.size, 7, none⟩ (.string s.data)).drew w.heap.size 59 [.int .i64 s.most, .int .i64 s.credit, .int .i64 s.state, .int .i64 s.sq, .int .i64 s.peer, .int .i64 s.cc, .int .i64 s.ms, .string s.data] := (Blk.drew ((((((((hout.out.set 0 (.int .i64 s.most)).set 1 (.int .i64 s.credit)).set 2 (.int .i64 s.state)).set 3 (.int .i64 s.sq)).set 4 (.int .i64 s.peer)).set 5 (.int .i64 s.cc)).set 6 (.int .i64 s.ms)).set 7 (.string s.data)))
        have hc5 : ConnAt ((((((((wr.setCell ⟨w.heap.size, 0, none⟩ (.int .i64 s.most)).setCell ⟨w.heap.size, 1, none⟩ (.int .i64 s.credit)).setCell ⟨w.heap.size, 2, none⟩ (.int .i64 s.state)).setCell ⟨w.heap.size, 3, none⟩ (.int .i64 s.sq)).setCell ⟨w.heap.size, 4, none⟩ (.int .i64 s.peer)).setCell ⟨w.heap.size, 5, none⟩ (.int .i64 s.cc)).setCell ⟨w.heap.size, 6, none⟩ (.int .i64 s.ms)).setCell ⟨w.heap.size, 7, none⟩ (.string s.data)).drew c s := ta.blk hc.out (by intro e; have e : c = w.heap.size := e; have := HCC.out; omega)
        have hf5 : Fresh w ((((((((wr.setCell ⟨w.heap.size, 0, none⟩ (.int .i64 s.most)).setCell ⟨w.heap.size, 1, none⟩ (.int .i64 s.credit)).setCell ⟨w.heap.size, 2, none⟩ (.int .i64 s.state)).setCell ⟨w.heap.size, 3, none⟩ (.int .i64 s.sq)).setCell ⟨w.heap.size, 4, none⟩ (.int .i64 s.peer)).setCell ⟨w.heap.size, 5, none⟩ (.int .i64 s.cc)).setCell ⟨w.heap.size, 6, none⟩ (.int .i64 s.ms)).setCell ⟨w.heap.size, 7, none⟩ (.string s.data)).drew := hf.out.trans ta (fun k hk e => by have e : k = w.heap.size := e; omega)
        have HX : Hid (∀ e : Ending, e = .returned (.tuple #[.pointer (some ⟨c, 0, none⟩), .agg #[.int .i64 s.most, .int .i64 s.credit, .int .i64 s.state, .int .i64 s.sq, .int .i64 s.peer, .int .i64 s.cc, .int .i64 s.ms, .string s.data]]) → ∃ c, e = .returned (.tuple #[.pointer (some ⟨c, 0, none⟩), rcV (Cn.run (Cn.ways.getD k []))]) ∧ ConnAt ((((((((wr.setCell ⟨w.heap.size, 0, none⟩ (.int .i64 s.most)).setCell ⟨w.heap.size, 1, none⟩ (.int .i64 s.credit)).setCell ⟨w.heap.size, 2, none⟩ (.int .i64 s.state)).setCell ⟨w.heap.size, 3, none⟩ (.int .i64 s.sq)).setCell ⟨w.heap.size, 4, none⟩ (.int .i64 s.peer)).setCell ⟨w.heap.size, 5, none⟩ (.int .i64 s.cc)).setCell ⟨w.heap.size, 6, none⟩ (.int .i64 s.ms)).setCell ⟨w.heap.size, 7, none⟩ (.string s.data)).drew c (Cn.run (Cn.ways.getD k [])) ∧ Cn.Ok (Cn.run (Cn.ways.getD k [])) ∧ w.heap.size ≤ c ∧ Fresh w ((((((((wr.setCell ⟨w.heap.size, 0, none⟩ (.int .i64 s.most)).setCell ⟨w.heap.size, 1, none⟩ (.int .i64 s.credit)).setCell ⟨w.heap.size, 2, none⟩ (.int .i64 s.state)).setCell ⟨w.heap.size, 3, none⟩ (.int .i64 s.sq)).setCell ⟨w.heap.size, 4, none⟩ (.int .i64 s.peer)).setCell ⟨w.heap.size, 5, none⟩ (.int .i64 s.cc)).setCell ⟨w.heap.size, 6, none⟩ (.int .i64 s.ms)).setCell ⟨w.heap.size, 7, none⟩ (.string s.data)).drew) := fun e he => by
          refine ⟨c, ?_, ?_, ?_, ?_, hf5⟩
          · rw [HS.out]; exact he
          · rw [HS.out]; exact hc5
          · rw [HS.out]; exact ho.out
          · have := HCC.out; omega
        clear ta hc hb hout hr hf hc5 hf5 x0 z0 f0 x1 z1 f1 x2 z2 f2 x3 z3 f3 x4 z4 f4 x5 z5 f5 x6 z6 f6 x7 z7 f7
        generalize ((((((((wr.setCell ⟨w.heap.size, 0, none⟩ (.int .i64 s.most)).setCell ⟨w.heap.size, 1, none⟩ (.int .i64 s.credit)).setCell ⟨w.heap.size, 2, none⟩ (.int .i64 s.state)).setCell ⟨w.heap.size, 3, none⟩ (.int .i64 s.sq)).setCell ⟨w.heap.size, 4, none⟩ (.int .i64 s.peer)).setCell ⟨w.heap.size, 5, none⟩ (.int .i64 s.cc)).setCell ⟨w.heap.size, 6, none⟩ (.int .i64 s.ms)).setCell ⟨w.heap.size, 7, none⟩ (.string s.data)).drew = wz at *
        have z0 : wz.cell? ⟨w.heap.size, 0, none⟩ = some (.int .i64 s.most) := hbo.cell 0
        have z1 : wz.cell? ⟨w.heap.size, 1, none⟩ = some (.int .i64 s.credit) := hbo.cell 1
        have z2 : wz.cell? ⟨w.heap.size, 2, none⟩ = some (.int .i64 s.state) := hbo.cell 2
        have z3 : wz.cell? ⟨w.heap.size, 3, none⟩ = some (.int .i64 s.sq) := hbo.cell 3
        have z4 : wz.cell? ⟨w.heap.size, 4, none⟩ = some (.int .i64 s.peer) := hbo.cell 4
        have z5 : wz.cell? ⟨w.heap.size, 5, none⟩ = some (.int .i64 s.cc) := hbo.cell 5
        have z6 : wz.cell? ⟨w.heap.size, 6, none⟩ = some (.int .i64 s.ms) := hbo.cell 6
        have z7 : wz.cell? ⟨w.heap.size, 7, none⟩ = some (.string s.data) := hbo.cell 7
        go_wp2
        have HX2 := HX.out _ rfl
        clear HX
        refine bodyPost_ret (v := .tuple #[.pointer (some ⟨c, 0, none⟩), .agg #[.int .i64 s.most, .int .i64 s.credit, .int .i64 s.state, .int .i64 s.sq, .int .i64 s.peer, .int .i64 s.cc, .int .i64 s.ms, .string s.data]]) ?_ rfl ?_
        · simp [results, Try.results17, go_sem, z0, z1, z2, z3, z4, z5, z6, z7]
        · exact HX2
end Go.Proofs.Ytkmegkjkbalooaa

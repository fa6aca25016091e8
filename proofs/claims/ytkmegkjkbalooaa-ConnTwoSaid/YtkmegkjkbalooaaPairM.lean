/-
  polliwoglaw14: a pair of ends in memory, seen from one of them.
-/
import Derived.Test.YtkmegkjkbalooaaGi0
import Derived.Test.YtkmegkjkbalooaaGi1
import Derived.Test.YtkmegkjkbalooaaTwR
import Derived.Test.YtkmegkjkbalooaaTyB
namespace Go.Proofs.Ytkmegkjkbalooaa
open Go.RowKit Go.Shelf

/-- A pair in memory, seen from the end i. -/
structure PairI (i j : Nat) (w : World) (gc g0 g1 ci cj : Nat) (p : Tw.P) : Prop where
  ij : (i = 0 ∧ j = 1) ∨ (i = 1 ∧ j = 0)
  conns : ∃ cc, Blk w gc 25 cc ∧ cc[i]? = some (.pointer (some ⟨ci, 0, none⟩)) ∧ cc[j]? = some (.pointer (some ⟨cj, 0, none⟩))
  ways : ∃ cs A k B d, Blk w g0 39 cs ∧ cs[i]? = some (.slice A p.w0.length k) ∧ cs[j]? = some (.slice B p.w1.length d) ∧ Sl pduE w A k p.w0 ∧ Sl pduE w B d p.w1
  told : ∃ cs A k B d, Blk w g1 38 cs ∧ cs[i]? = some (.slice A p.t0.length k) ∧ cs[j]? = some (.slice B p.t1.length d) ∧ Sl sigE w A k p.t0 ∧ Sl sigE w B d p.t1
  s0 : ConnAt w ci p.s0
  s1 : ConnAt w cj p.s1
  o0 : Cn.Ok p.s0
  o1 : Cn.Ok p.s1
  ne : ci ≠ cj

variable {i j : Nat} {w w' : World} {gc g0 g1 ci cj : Nat} {p : Tw.P}
theorem PairI.swap (h : PairI i j w gc g0 g1 ci cj p) : PairI j i w gc g0 g1 cj ci p.swap := by
  obtain ⟨ij, ⟨cc, b, b0, b1⟩, ⟨cs, A, k, B, d, c, c0, c1, c2, c3⟩, ⟨cs', A', k', B', d', d0, d1, d2, d3, d4⟩, s0, s1, o0, o1, ne⟩ := h
  exact ⟨ij.elim (fun e => .inr ⟨e.2, e.1⟩) (fun e => .inl ⟨e.2, e.1⟩), ⟨cc, b, b1, b0⟩, ⟨cs, B, d, A, k, c, c1, c0, c3, c2⟩, ⟨cs', B', d', A', k', d0, d2, d1, d4, d3⟩, s1, s0, o1, o0, ne.symm⟩
theorem PairI.old (h : PairI i j w gc g0 g1 ci cj p) (ht : Fresh w w') : PairI i j w' gc g0 g1 ci cj p := by
  obtain ⟨ij, ⟨cc, b, b0, b1⟩, ⟨cs, A, k, B, d, c, c0, c1, c2, c3⟩, ⟨cs', A', k', B', d', d0, d1, d2, d3, d4⟩, s0, s1, o0, o1, ne⟩ := h
  exact ⟨ij, ⟨cc, ht.blk b (fun e => e), b0, b1⟩, ⟨cs, A, k, B, d, ht.blk c (fun e => e), c0, c1, c2.touch ht (fun _ _ e => e), c3.touch ht (fun _ _ e => e)⟩, ⟨cs', A', k', B', d', ht.blk d0 (fun e => e), d1, d2, d3.touch ht (fun _ _ e => e), d4.touch ht (fun _ _ e => e)⟩, ht.blk s0 (fun e => e), ht.blk s1 (fun e => e), o0, o1, ne⟩
/-- A call of the connection. -/
theorem PairI.called {y : Cn.SR} {v : Value} (h : PairI i j w gc g0 g1 ci cj p) (hp : ConnPost w ci y v w') : PairI i j w' gc g0 g1 ci cj { p with s0 := y.1 } := by
  obtain ⟨ij, ⟨cc, b, b0, b1⟩, ⟨cs, A, k, B, d, c, c0, c1, c2, c3⟩, ⟨cs', A', k', B', d', d0, d1, d2, d3, d4⟩, s0, s1, o0, o1, ne⟩ := h
  have ht := hp.touch
  exact ⟨ij, ⟨cc, ht.blk b (Blk.ne_ b s0 (by decide)), b0, b1⟩, ⟨cs, A, k, B, d, ht.blk c (Blk.ne_ c s0 (by decide)), c0, c1, c2.touch ht (c2.blk_ne s0 (by decide)), c3.touch ht (c3.blk_ne s0 (by decide))⟩,
    ⟨cs', A', k', B', d', ht.blk d0 (Blk.ne_ d0 s0 (by decide)), d1, d2, d3.touch ht (d3.blk_ne s0 (by decide)), d4.touch ht (d4.blk_ne s0 (by decide))⟩, hp.conn, ht.blk s1 (fun e => ne e.symm), hp.ok, o1, ne⟩
theorem set_get {l : List Value} {j : Nat} {x v : Value} (h : l[j]? = some x) : (l.set j v)[j]? = some v := by
  have := (List.getElem?_eq_some_iff.1 h).1
  simp [this]
theorem set_far {l : List Value} {i j : Nat} {v : Value} (h : j ≠ i) : (l.set j v)[i]? = l[i]? := List.getElem?_set_ne h
/-- What was brought is given. -/
theorem PairI.gave {l us : List Cn.Pd} {l' sg : List Cn.Sig} {cs cs' : List Value} {A B A' B' : Option Addr} {k d k' d' : Nat}
    (ij : (i = 0 ∧ j = 1) ∨ (i = 1 ∧ j = 0)) (conns : ∃ cc, Blk w gc 25 cc ∧ cc[i]? = some (.pointer (some ⟨ci, 0, none⟩)) ∧ cc[j]? = some (.pointer (some ⟨cj, 0, none⟩)))
    (hl : l = p.w1) (hl' : l' = p.t0) (c : Blk w g0 39 cs) (c0 : cs[i]? = some (.slice A p.w0.length k)) (c1 : cs[j]? = some (.slice B p.w1.length d)) (c2 : Sl pduE w A k p.w0)
    (e : Blk w g1 38 cs') (e0 : cs'[i]? = some (.slice A' p.t0.length k')) (e1 : cs'[j]? = some (.slice B' p.t1.length d')) (e3 : Sl sigE w B' d' p.t1)
    (s0 : ConnAt w ci p.s0) (s1 : ConnAt w cj p.s1) (o0 : Cn.Ok p.s0) (o1 : Cn.Ok p.s1) (ne : ci ≠ cj) (hg : GivePost w g0 g1 cs cs' i j l us l' sg w') :
    PairI i j w' gc g0 g1 ci cj { p with w1 := p.w1 ++ us, t0 := p.t0 ++ sg } := by
  subst hl hl'
  obtain ⟨⟨A3, c3, A4, c4, b0, b1, r0, r1⟩, ht⟩ := hg
  obtain ⟨cc, bc, bc0, bc1⟩ := conns
  have nij : j ≠ i := by omega
  have nT : ∀ k, k ≠ g0 → k ≠ g1 → ¬ (k = g0 ∨ k = g1) := fun k a b h => h.elim a b
  refine ⟨ij, ⟨cc, ht.blk bc (nT _ (Blk.ne_ bc c (by decide)) (Blk.ne_ bc e (by decide))), bc0, bc1⟩,
    ⟨_, A, k, A3, c3, b0, (set_far nij).trans c0, set_get c1, c2.touch ht (fun ad ea => nT _ (c2.blk_ne c (by decide) ad ea) (c2.blk_ne e (by decide) ad ea)), r0⟩,
    ⟨_, A4, c4, B', d', b1, set_get e0, (set_far nij.symm).trans e1, r1, e3.touch ht (fun ad ea => nT _ (e3.blk_ne c (by decide) ad ea) (e3.blk_ne e (by decide) ad ea))⟩,
    ht.blk s0 (nT _ (Blk.ne_ s0 c (by decide)) (Blk.ne_ s0 e (by decide))), ht.blk s1 (nT _ (Blk.ne_ s1 c (by decide)) (Blk.ne_ s1 e (by decide))), o0, o1, ne⟩
/-- give. -/
theorem give_any (h : PairI i j w gc g0 g1 ci cj p) {A1 A2 : Option Addr} {c1 c2 : Nat} {us : List Cn.Pd} {sg : List Cn.Sig} (be en : Bool) (ms t : Int) (hs : Sl sigE w A1 c1 sg) (hu : Sl pduE w A2 c2 us)
    (hm : p.w1.length + us.length ≤ 1000000) (hm' : p.t0.length + sg.length ≤ 1000000) :
    Calls Try.prog 9 #[.agg #[.slice (some ⟨gc, 0, none⟩) 2 2, .slice (some ⟨g0, 0, none⟩) 2 2, .slice (some ⟨g1, 0, none⟩) 2 2], .int .i64 (i : Int), .agg #[.slice A1 sg.length c1, .slice A2 us.length c2, .bool be, .bool en, .int .u32 ms, .int .i64 t]] w
      fun e w' => e = .returned (.tuple #[]) ∧ PairI i j w' gc g0 g1 ci cj { p with w1 := p.w1 ++ us, t0 := p.t0 ++ sg } ∧ Touch (fun k => k = g0 ∨ k = g1) w w' := by
  obtain ⟨ij, conns, ⟨cs, A, k, B, d, c, c0, c1', c2', c3⟩, ⟨cs', A', k', B', d', d0, d1, d2, d3, d4⟩, s0, s1, o0, o1, ne⟩ := h
  rcases ij with ⟨rfl, rfl⟩ | ⟨rfl, rfl⟩
  · exact (give0 be en ms t c d0 c1' d1 c3 d3 hs hu hm hm').mono fun e w' hg => ⟨hg.1, PairI.gave (.inl ⟨rfl, rfl⟩) conns rfl rfl c c0 c1' c2' d0 d1 d2 d4 s0 s1 o0 o1 ne hg.2, hg.2.touch⟩
  · exact (give1 be en ms t c d0 c1' d1 c3 d3 hs hu hm hm').mono fun e w' hg => ⟨hg.1, PairI.gave (.inr ⟨rfl, rfl⟩) conns rfl rfl c c0 c1' c2' d0 d1 d2 d4 s0 s1 o0 o1 ne hg.2, hg.2.touch⟩
/-- give, at end 0. -/
theorem give_any0 (h : PairI 0 1 w gc g0 g1 ci cj p) {A1 A2 : Option Addr} {c1 c2 : Nat} {us : List Cn.Pd} {sg : List Cn.Sig} (be en : Bool) (ms t : Int) (hs : Sl sigE w A1 c1 sg) (hu : Sl pduE w A2 c2 us)
    (hm : p.w1.length + us.length ≤ 1000000) (hm' : p.t0.length + sg.length ≤ 1000000) :
    Calls Try.prog 9 #[.agg #[.slice (some ⟨gc, 0, none⟩) 2 2, .slice (some ⟨g0, 0, none⟩) 2 2, .slice (some ⟨g1, 0, none⟩) 2 2], .int .i64 0, .agg #[.slice A1 sg.length c1, .slice A2 us.length c2, .bool be, .bool en, .int .u32 ms, .int .i64 t]] w
      fun e w' => e = .returned (.tuple #[]) ∧ PairI 0 1 w' gc g0 g1 ci cj { p with w1 := p.w1 ++ us, t0 := p.t0 ++ sg } ∧ Touch (fun k => k = g0 ∨ k = g1) w w' := give_any h be en ms t hs hu hm hm'
/-- give, at end 1. -/
theorem give_any1 (h : PairI 1 0 w gc g0 g1 ci cj p) {A1 A2 : Option Addr} {c1 c2 : Nat} {us : List Cn.Pd} {sg : List Cn.Sig} (be en : Bool) (ms t : Int) (hs : Sl sigE w A1 c1 sg) (hu : Sl pduE w A2 c2 us)
    (hm : p.w1.length + us.length ≤ 1000000) (hm' : p.t0.length + sg.length ≤ 1000000) :
    Calls Try.prog 9 #[.agg #[.slice (some ⟨gc, 0, none⟩) 2 2, .slice (some ⟨g0, 0, none⟩) 2 2, .slice (some ⟨g1, 0, none⟩) 2 2], .int .i64 1, .agg #[.slice A1 sg.length c1, .slice A2 us.length c2, .bool be, .bool en, .int .u32 ms, .int .i64 t]] w
      fun e w' => e = .returned (.tuple #[]) ∧ PairI 1 0 w' gc g0 g1 ci cj { p with w1 := p.w1 ++ us, t0 := p.t0 ++ sg } ∧ Touch (fun k => k = g0 ∨ k = g1) w w' := give_any h be en ms t hs hu hm hm'
/-- What is on its way to it is taken. -/
theorem PairI.cut (h : PairI i j w gc g0 g1 ci cj p) : PairI i j (w.setCell ⟨g0, i, none⟩ (.slice none 0 0)) gc g0 g1 ci cj (Tw.cut p) := by
  obtain ⟨ij, ⟨cc, b, b0, b1⟩, ⟨cs, A, k, B, d, c, c0, c1, c2, c3⟩, ⟨cs', A', k', B', d', d0, d1, d2, d3, d4⟩, s0, s1, o0, o1, ne⟩ := h
  have nij : j ≠ i := by omega
  exact ⟨ij, ⟨cc, b.far (Blk.ne_ b c (by decide)) _, b0, b1⟩, ⟨_, none, 0, B, d, c.set i _, set_get c0, (set_far nij.symm).trans c1, Sl.nil _ _, c3.setCell (c3.blk_ne c (by decide)) _⟩,
    ⟨cs', A', k', B', d', d0.far (Blk.ne_ d0 c (by decide)) _, d1, d2, d3.setCell (d3.blk_ne c (by decide)) _, d4.setCell (d4.blk_ne c (by decide)) _⟩, Blk.far s0 (Blk.ne_ s0 c (by decide)) _, Blk.far s1 (Blk.ne_ s1 c (by decide)) _, o0, o1, ne⟩

/-! How much may be there. -/
namespace Tw
open Cn
structure Bnd (a b : Nat) (p : P) : Prop where
  w1 : p.w1.length ≤ a
  t0 : p.t0.length ≤ b
theorem few_u {y : SR} (h : Few 100 y) : y.2.units.length ≤ 100 := h.2
theorem few_s {y : SR} (h : Few 100 y) : y.2.sigs.length ≤ 100 := h.1
theorem Bnd.by_ {a b : Nat} {p : P} {y : SR} (h : Bnd a b p) (hf : Few 100 y) : Bnd (a + 100) (b + 100) (p.by_ y) := by
  have h1 := hf.1
  have h2 := hf.2
  have h3 := h.w1
  have h4 := h.t0
  exact ⟨by show (p.w1 ++ y.2.units).length ≤ _; rw [List.length_append]; omega, by show (p.t0 ++ y.2.sigs).length ≤ _; rw [List.length_append]; omega⟩
theorem Bnd.wide {a b a' b' : Nat} {p : P} (h : Bnd a b p) (h1 : a ≤ a') (h2 : b ≤ b') : Bnd a' b' p := ⟨Nat.le_trans h.w1 h1, Nat.le_trans h.t0 h2⟩
theorem tellS_w0 (s : Bool) (p : P) (g : Sig) : (tellS s p g).w0 = p.w0 := by
  unfold tellS
  split
  · rfl
  · split <;> rfl
theorem fold_w0 (s : Bool) (l : List Sig) (p : P) : (l.foldl (tellS s) p).w0 = p.w0 := by
  induction l generalizing p with
  | nil => rfl
  | cons g l ih => rw [List.foldl_cons, ih, tellS_w0]
theorem fold_snoc {α β : Type} (f : β → α → β) (b : β) (l : List α) (k : Nat) (hk : k < l.length) : (l.take (k + 1)).foldl f b = f ((l.take k).foldl f b) l[k] := by
  rw [List.take_succ_eq_append_getElem hk, List.foldl_append]
  rfl
theorem tellS_skip {s : Bool} {p : P} {g : Sig} (h : true = (decide (want g.kind = 0) || s)) : tellS s p g = p := by
  unfold tellS
  rw [if_pos (by simpa using h.symm)]
theorem tellS_no {s : Bool} {p : P} {g : Sig} (h : false = (decide (want g.kind = 0) || s)) (he : ¬ askErr p.s0 (want g.kind) no = 0) : tellS s p g = p := by
  have h : ¬ want g.kind = 0 ∧ s = false := by simpa using h.symm
  unfold tellS
  rw [if_neg (by simpa using h), if_neg he]
theorem tellS_go {s : Bool} {p : P} {g : Sig} (h : false = (decide (want g.kind = 0) || s)) (he : askErr p.s0 (want g.kind) no = 0) : tellS s p g = p.by_ (askS p.s0 (want g.kind) no) := by
  have h : ¬ want g.kind = 0 ∧ s = false := by simpa using h.symm
  unfold tellS
  rw [if_neg (by simpa using h), if_pos he]
theorem askS_no {s : S} {k : Int} (he : ¬ askErr s k no = 0) : askS s k no = (s, r0) := by
  unfold askS
  rw [if_neg he]
/-- The state seen from the end whose turn it is. -/
def side (n : Nat) (p : P) : P := if n % 2 = 0 then p else p.swap
theorem side_rnd (n : Nat) (s : Bool) (p : P) : side n (rndN n s p) = rnd s (side n p) := by
  unfold side rndN
  split
  · rfl
  · rfl
end Tw
/-- The pair seen from the end whose turn it is. -/
theorem PairI.turn {sk : Nat → Bool} {ca cb k : Nat} (h : PairI 0 1 w gc g0 g1 ca cb (Tw.runH sk k p)) (hl : Tw.Lim 480 (Tw.runH sk k p)) :
    ∃ i j ci cj q, (k : Int) % 2 = ((i : Nat) : Int) ∧ i < 2 ∧ PairI i j w gc g0 g1 ci cj q ∧ (q.w0.length ≤ 8 ∧ Tw.Bnd 8 480 q) ∧ (∀ wx, PairI i j wx gc g0 g1 ci cj (Tw.rnd (sk k) q) → PairI 0 1 wx gc g0 g1 ca cb (Tw.runH sk (k + 1) p)) ∧ (∀ x, x = ci → x = ca ∨ x = cb) := by
  obtain ⟨l0, l1, l2, l3⟩ := hl
  by_cases e : k % 2 = 0
  · refine ⟨0, 1, ca, cb, _, by omega, by omega, h, ⟨l0, l1, l2⟩, fun wx hx => ?_, fun x hx => .inl hx⟩
    show PairI 0 1 wx gc g0 g1 ca cb (Tw.rndN k (sk k) (Tw.runH sk k p))
    unfold Tw.rndN
    rw [if_pos e]
    exact hx
  · refine ⟨1, 0, cb, ca, _, by omega, by omega, h.swap, ⟨l1, l0, l3⟩, fun wx hx => ?_, fun x hx => .inr hx⟩
    show PairI 0 1 wx gc g0 g1 ca cb (Tw.rndN k (sk k) (Tw.runH sk k p))
    unfold Tw.rndN
    rw [if_neg e]
    exact hx.swap
end Go.Proofs.Ytkmegkjkbalooaa

/-
  Boxes of a function's own, known whole; what may be touched beside them; two structs handed back. Each step leaves a world that is a letter. No program is named · A drawn region 'c, d = f(c), f(d)': two structs are loaded, turned by a call each, and stored back, in any order. No program is named.
-/
import Derived.Test.YtnenaemincfgpaaGreatRow2
import Derived.Test.YtnenaemincfgpaaGreatDetP
import Derived.Test.YtnenaemincfgpaaGreatRPdu
namespace Go.Proofs.YtnenaemincfgpaaGreat
open Go.RowKit

def KB (K : Nat -> Prop) (bs : List Nat) : Nat -> Prop := fun k => K k ∨ k ∈ bs

namespace Dag
end Dag
namespace Dag
def t2val (v0 v2 : Value) (b : List Value × List Value) (i : Nat) : Value := [v0, .agg b.1.toArray, v2, .agg b.2.toArray].getD i undef
def t2slot (s0 s1 s2 s3 : Nat) (i : Nat) : Nat := [s0, s1, s2, s3, s0 + s1 + s2 + s3 + 1, s0 + s1 + s2 + s3 + 2].getD i 0
def t2WD (w : World) (b1 b2 : Nat) (T : TypeId) (cs ds : List Value) (R1 R2 : List Value -> World -> Prop) (b : List Value × List Value) (d : Nat -> Bool) (W : World) : Prop :=
 Touch (fun k => k = b1 ∨ k = b2) w W ∧ (d 1 = true -> R1 b.1 W) ∧ (d 3 = true -> R2 b.2 W) ∧ Blk W b1 T (if d 4 = true then b.1 else cs) ∧ Blk W b2 T (if d 5 = true then b.2 else ds)
theorem t2WD.upd {w : World} {b1 b2 : Nat} {T : TypeId} {cs ds : List Value} {R1 R2 : List Value -> World -> Prop} {b : List Value × List Value} {d : Nat -> Bool} {W : World} (h : t2WD w b1 b2 T cs ds R1 R2 b d W) {i : Nat} (h1 : i ≠ 1) (h3 : i ≠ 3) (h4 : i ≠ 4) (h5 : i ≠ 5) : t2WD w b1 b2 T cs ds R1 R2 b (upd d i true) W := by
 unfold t2WD
 rw [upd_far _ _ (Ne.symm h1), upd_far _ _ (Ne.symm h3), upd_far _ _ (Ne.symm h4), upd_far _ _ (Ne.symm h5)]
 exact h
theorem turn2 {P : Program} {Q : Exit -> Act -> World -> Prop} {id : Nat} {a : Act} {w : World} (hm : P.follows .mixedOrders = true) (o0 o1 o2 o3 o4 o5 : Oper) {s0 s1 s2 s3 x1 x2 : Nat} {T : TypeId} {td : TypeDesc} {F : FuncId} {b1 b2 : Nat} {cs ds : List Value} (R1 R2 : List Value -> World -> Prop)
  (g0 : o0.guard = none) (g1 : o1.guard = none) (g2 : o2.guard = none) (g3 : o3.guard = none) (g4 : o4.guard = none) (g5 : o5.guard = none) (e0 : o0.dst = some s0) (e1 : o1.dst = some s1) (e2 : o2.dst = some s2) (e3 : o3.dst = some s3) (e4 : o4.dst = none) (e5 : o5.dst = none)
  (h0 : o0.op = .load T (.tmp x1)) (h1 : ∀ (A : Act) (v : Value), A.eval (.tmp s0) = v -> ∀ W, A.eval (.func F) = .func (.func F) #[] #[] -> (execOp A.eval o1).run P W = .ok (.enter F #[v]) W) (h2 : o2.op = .load T (.tmp x2)) (h3 : ∀ (A : Act) (v : Value), A.eval (.tmp s2) = v -> ∀ W, A.eval (.func F) = .func (.func F) #[] #[] -> (execOp A.eval o3).run P W = .ok (.enter F #[v]) W) (h4 : o4.op = .store T (.tmp x1) (.tmp s1)) (h5 : o5.op = .store T (.tmp x2) (.tmp s3))
  (l10 : has [o0, o1, o2, o3, o4, o5] 1 0 = true) (l32 : has [o0, o1, o2, o3, o4, o5] 3 2 = true) (l41 : has [o0, o1, o2, o3, o4, o5] 4 1 = true) (l40 : has [o0, o1, o2, o3, o4, o5] 4 0 = true) (l53 : has [o0, o1, o2, o3, o4, o5] 5 3 = true) (l52 : has [o0, o1, o2, o3, o4, o5] 5 2 = true) (htop : topB #[o0, o1, o2, o3, o4, o5] = true)
  (hs : [s0, s1, s2, s3].Nodup) (hz : s0 < a.tmps.size ∧ s1 < a.tmps.size ∧ s2 < a.tmps.size ∧ s3 < a.tmps.size) (hx1 : x1 ∉ [s0, s1, s2, s3]) (hx2 : x2 ∉ [s0, s1, s2, s3])
  (q1 : a.eval (.tmp x1) = .pointer (some ⟨b1, 0, none⟩)) (q2 : a.eval (.tmp x2) = .pointer (some ⟨b2, 0, none⟩)) (qF : ∀ A : Act, A.eval (.func F) = .func (.func F) #[] #[])
  (B1 : Blk w b1 T cs) (B2 : Blk w b2 T ds) (hne : b1 ≠ b2) (hu : P.underlying T = some td) (hd : td.isRow = true) (hi1 : (P.info? T).map (·.size) = some cs.length) (hi2 : (P.info? T).map (·.size) = some ds.length)
  (c1 : ∀ W, Touch (fun k => k = b1 ∨ k = b2) w W -> Calls P F #[.agg cs.toArray] W fun e W' => ∃ r, e = .returned (.agg r.toArray) ∧ R1 r W' ∧ Fresh W W') (c2 : ∀ W, Touch (fun k => k = b1 ∨ k = b2) w W -> Calls P F #[.agg ds.toArray] W fun e W' => ∃ r, e = .returned (.agg r.toArray) ∧ R2 r W' ∧ Fresh W W')
  (k1 : ∀ r W W', R1 r W -> Touch (fun k => k = b1 ∨ k = b2) W W' -> R1 r W') (k2 : ∀ r W W', R2 r W -> Touch (fun k => k = b1 ∨ k = b2) W W' -> R2 r W')
  (m1 : ∀ r W, R1 r W -> r.length = cs.length ∧ ∀ v ∈ r, v.oneCell' = true) (m2 : ∀ r W, R2 r W -> r.length = ds.length ∧ ∀ v ∈ r, v.oneCell' = true)
  (hend : ∀ r1 r2 w', R1 r1 w' -> R2 r2 w' -> Blk w' b1 T r1 -> Blk w' b2 T r2 -> Touch (fun k => k = b1 ∨ k = b2) w w' -> Q .normal ((((a.put (some s0) (.agg cs.toArray)).put (some s1) (.agg r1.toArray)).put (some s2) (.agg ds.toArray)).put (some s3) (.agg r2.toArray)) w') : (Code.region id #[o0, o1, o2, o3, o4, o5] true).wp P Q a w := by
 obtain ⟨z0, z1, z2, z3⟩ := hz
 have hsl : ∀ i j, i < 4 -> j < 4 -> [s0, s1, s2, s3].getD i 0 = [s0, s1, s2, s3].getD j 0 -> i = j := fun i j hi hj e => by
  have := (List.getElem_inj (xs := [s0, s1, s2, s3]) (i := i) (j := j) (h₀ := by simpa using hi) (h₁ := by simpa using hj) hs).1
  refine this ?_
  rw [List.getD_eq_getElem?_getD, List.getD_eq_getElem?_getD, List.getElem?_eq_getElem (by simpa using hi), List.getElem?_eq_getElem (by simpa using hj)] at e
  exact e
 have n01 : s0 ≠ s1 := fun e => absurd (hsl 0 1 (by decide) (by decide) e) (by decide)
 have n02 : s0 ≠ s2 := fun e => absurd (hsl 0 2 (by decide) (by decide) e) (by decide)
 have n03 : s0 ≠ s3 := fun e => absurd (hsl 0 3 (by decide) (by decide) e) (by decide)
 have n12 : s1 ≠ s2 := fun e => absurd (hsl 1 2 (by decide) (by decide) e) (by decide)
 have n13 : s1 ≠ s3 := fun e => absurd (hsl 1 3 (by decide) (by decide) e) (by decide)
 have n23 : s2 ≠ s3 := fun e => absurd (hsl 2 3 (by decide) (by decide) e) (by decide)
 refine detP (l := [o0, o1, o2, o3, o4, o5]) hm 6 [s0, s1, s2, s3] (t2slot s0 s1 s2 s3) (t2val (.agg cs.toArray) (.agg ds.toArray)) (t2WD w b1 b2 T cs ds R1 R2) ([], []) (fun b k => if k = s0 then .agg cs.toArray else if k = s1 then .agg b.1.toArray else if k = s2 then .agg ds.toArray else .agg b.2.toArray) rfl ?_ ?_
  ⟨(Touch.refl _ _).drew, fun e => (by cases e), fun e => (by cases e), (Touch.refl (fun _ => False) w).drew.blk B1 (fun e => e), (Touch.refl (fun _ => False) w).drew.blk B2 (fun e => e)⟩ htop ⟨?_, ?_, ?_, ?_, ?_, ?_, trivial⟩ ?_ ?_
 ·intro i j hi hj e
  rcases (show i = 0 ∨ i = 1 ∨ i = 2 ∨ i = 3 ∨ i = 4 ∨ i = 5 by omega) with rfl | rfl | rfl | rfl | rfl | rfl <;> rcases (show j = 0 ∨ j = 1 ∨ j = 2 ∨ j = 3 ∨ j = 4 ∨ j = 5 by omega) with rfl | rfl | rfl | rfl | rfl | rfl <;> simp [t2slot] at e <;> first | rfl | omega
 ·intro i hi e
  rcases (show i = 0 ∨ i = 1 ∨ i = 2 ∨ i = 3 ∨ i = 4 ∨ i = 5 by omega) with rfl | rfl | rfl | rfl | rfl | rfl
  ·simp [e0] at e
  ·simp [e1] at e
  ·simp [e2] at e
  ·simp [e3] at e
  ·simp [t2slot]; omega
  ·simp [t2slot]; omega
 ·refine ⟨g0, fun s e => (by rw [e0] at e; injection e with e; subst e; exact ⟨rfl, by simp⟩), fun b d R W hi hp hcl hm hW => ?_⟩
  have hf : ¬ d 4 = true := fun h => by have := hcl 4 0 l40 h; rw [hi] at this; cases this
  have hB := hW.2.2.2.1
  rw [if_neg hf] at hB
  exact .value s0 e0 _ W (exec_loadB h0 ((hm.old x1 (by assumption)).trans q1) hB.range hu hd hi1) ⟨b, rfl, fun _ _ _ => rfl, hW.upd (by decide) (by decide) (by decide) (by decide)⟩
 ·refine ⟨g1, fun s e => (by rw [e1] at e; injection e with e; subst e; exact ⟨rfl, by simp⟩), fun b d R W hi hp hcl hm hW => ?_⟩
  refine .call s1 e1 F #[.agg cs.toArray] (h1 _ _ (hm.got 0 (by decide) (hp 0 l10) (by simp [t2slot]) z0) _ (qF _)) ((c1 W hW.1).mono ?_)
  rintro e W' ⟨r, rfl, hr, hf⟩
  have hst : ¬ d 4 = true := fun h => by have := hcl 4 1 l41 h; rw [hi] at this; cases this
  refine ⟨_, rfl, (r, b.2), rfl, fun j hj hdj => ?_, hW.1.trans hf (fun _ _ e => e.elim), ?_, ?_, ?_, ?_⟩
  ·rcases (show j = 0 ∨ j = 1 ∨ j = 2 ∨ j = 3 ∨ j = 4 ∨ j = 5 by omega) with rfl | rfl | rfl | rfl | rfl | rfl <;> first | rfl | (rw [hi] at hdj; cases hdj)
  ·exact fun _ => hr
  ·intro h; rw [upd_far _ _ (by decide)] at h; exact k2 _ _ _ (hW.2.2.1 h) (hf.mono fun _ _ e => e.elim)
  ·rw [upd_far _ _ (by decide), if_neg hst]; have hB := hW.2.2.2.1; rw [if_neg hst] at hB; exact hf.blk hB (fun e => e)
  ·rw [upd_far _ _ (by decide)]; exact hf.blk hW.2.2.2.2 (fun e => e)
 ·refine ⟨g2, fun s e => (by rw [e2] at e; injection e with e; subst e; exact ⟨rfl, by simp⟩), fun b d R W hi hp hcl hm hW => ?_⟩
  have hf : ¬ d 5 = true := fun h => by have := hcl 5 2 l52 h; rw [hi] at this; cases this
  have hB := hW.2.2.2.2
  rw [if_neg hf] at hB
  exact .value s2 e2 _ W (exec_loadB h2 ((hm.old x2 (by assumption)).trans q2) hB.range hu hd hi2) ⟨b, rfl, fun _ _ _ => rfl, hW.upd (by decide) (by decide) (by decide) (by decide)⟩
 ·refine ⟨g3, fun s e => (by rw [e3] at e; injection e with e; subst e; exact ⟨rfl, by simp⟩), fun b d R W hi hp hcl hm hW => ?_⟩
  refine .call s3 e3 F #[.agg ds.toArray] (h3 _ _ (hm.got 2 (by decide) (hp 2 l32) (by simp [t2slot]) z2) _ (qF _)) ((c2 W hW.1).mono ?_)
  rintro e W' ⟨r, rfl, hr, hf⟩
  have hst : ¬ d 5 = true := fun h => by have := hcl 5 3 l53 h; rw [hi] at this; cases this
  refine ⟨_, rfl, (b.1, r), rfl, fun j hj hdj => ?_, hW.1.trans hf (fun _ _ e => e.elim), ?_, ?_, ?_, ?_⟩
  ·rcases (show j = 0 ∨ j = 1 ∨ j = 2 ∨ j = 3 ∨ j = 4 ∨ j = 5 by omega) with rfl | rfl | rfl | rfl | rfl | rfl <;> first | rfl | (rw [hi] at hdj; cases hdj)
  ·intro h; rw [upd_far _ _ (by decide)] at h; exact k1 _ _ _ (hW.2.1 h) (hf.mono fun _ _ e => e.elim)
  ·exact fun _ => hr
  ·rw [upd_far _ _ (by decide)]; exact hf.blk hW.2.2.2.1 (fun e => e)
  ·rw [upd_far _ _ (by decide), if_neg hst]; have hB := hW.2.2.2.2; rw [if_neg hst] at hB; exact hf.blk hB (fun e => e)
 ·refine ⟨g4, fun s e => (by rw [e4] at e; cases e), fun b d R W hi hp hcl hm hW => ?_⟩
  have hB := hW.2.2.2.1
  rw [hi, if_neg (by decide)] at hB
  have hR := hW.2.1 (hp 1 l41)
  have ht : Touch (· = b1) W (W.setCells b1 0 b.1) := Touch.setCells (S := (· = b1)) rfl _ _ (Touch.refl _ _)
  have ht2 : Touch (fun k => k = b1 ∨ k = b2) W (W.setCells b1 0 b.1) := ht.mono fun k _ e => .inl e
  have qs : R.eval (.tmp s1) = .agg b.1.toArray := hm.got 1 (by decide) (hp 1 l41) (by simp [t2slot]) z1
  refine .skip e4 undef (W.setCells b1 0 b.1) (exec_storeB h4 ((hm.old x1 (by assumption)).trans q1) qs (hB.there_at 0 (by simp; exact Nat.le_of_eq (m1 _ _ hR).1)) (by rw [(m1 _ _ hR).1]; exact hi1) (m1 _ _ hR).2) ⟨b, rfl, fun _ _ _ => rfl, hW.1.trans ht2 (fun _ _ e => e), ?_, ?_, ?_, ?_⟩
  ·intro h; rw [upd_far _ _ (by decide)] at h; exact k1 _ _ _ (hW.2.1 h) ht2
  ·intro h; rw [upd_far _ _ (by decide)] at h; exact k2 _ _ _ (hW.2.2.1 h) ht2
  ·rw [upd_same, if_pos rfl]; exact hB.setCells (m1 _ _ hR).1
  ·rw [upd_far _ _ (by decide)]; exact ht.blk hW.2.2.2.2 (Ne.symm hne)
 ·refine ⟨g5, fun s e => (by rw [e5] at e; cases e), fun b d R W hi hp hcl hm hW => ?_⟩
  have hB := hW.2.2.2.2
  rw [hi, if_neg (by decide)] at hB
  have hR := hW.2.2.1 (hp 3 l53)
  have ht : Touch (· = b2) W (W.setCells b2 0 b.2) := Touch.setCells (S := (· = b2)) rfl _ _ (Touch.refl _ _)
  have ht2 : Touch (fun k => k = b1 ∨ k = b2) W (W.setCells b2 0 b.2) := ht.mono fun k _ e => .inr e
  have qs : R.eval (.tmp s3) = .agg b.2.toArray := hm.got 3 (by decide) (hp 3 l53) (by simp [t2slot]) z3
  refine .skip e5 undef (W.setCells b2 0 b.2) (exec_storeB h5 ((hm.old x2 (by assumption)).trans q2) qs (hB.there_at 0 (by simp; exact Nat.le_of_eq (m2 _ _ hR).1)) (by rw [(m2 _ _ hR).1]; exact hi2) (m2 _ _ hR).2) ⟨b, rfl, fun _ _ _ => rfl, hW.1.trans ht2 (fun _ _ e => e), ?_, ?_, ?_, ?_⟩
  ·intro h; rw [upd_far _ _ (by decide)] at h; exact k1 _ _ _ (hW.2.1 h) ht2
  ·intro h; rw [upd_far _ _ (by decide)] at h; exact k2 _ _ _ (hW.2.2.1 h) ht2
  ·rw [upd_far _ _ (by decide)]; exact ht.blk hW.2.2.2.1 hne
  ·rw [upd_same, if_pos rfl]; exact hB.setCells (m2 _ _ hR).1
 ·intro b k hk
  simp only [List.mem_cons, List.mem_nil_iff, or_false] at hk
  rcases hk with rfl | rfl | rfl | rfl
  ·exact ⟨0, by decide, rfl, if_pos rfl⟩
  ·exact ⟨1, by decide, rfl, by rw [if_neg (Ne.symm n01), if_pos rfl]; rfl⟩
  ·exact ⟨2, by decide, rfl, by rw [if_neg (Ne.symm n02), if_neg (Ne.symm n12), if_pos rfl]; rfl⟩
  ·exact ⟨3, by decide, rfl, by rw [if_neg (Ne.symm n03), if_neg (Ne.symm n13), if_neg (Ne.symm n23)]; rfl⟩
 ·intro b d w' hd hW
  have h1 := hW.2.2.2.1
  have h2 := hW.2.2.2.2
  rw [if_pos (hd 4 (by decide))] at h1
  rw [if_pos (hd 5 (by decide))] at h2
  have := hend b.1 b.2 w' (hW.2.1 (hd 1 (by decide))) (hW.2.2.1 (hd 3 (by decide))) h1 h2 hW.1
  simp only [actOf, List.foldl_cons, List.foldl_nil, if_true, if_neg (Ne.symm n01), if_neg (Ne.symm n02), if_neg (Ne.symm n03), if_neg (Ne.symm n12), if_neg (Ne.symm n13), if_neg (Ne.symm n23)]
  exact this
end Dag
end Go.Proofs.YtnenaemincfgpaaGreat

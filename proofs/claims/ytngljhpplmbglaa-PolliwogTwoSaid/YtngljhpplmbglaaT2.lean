/-
  A sender and a receiver by hand, some units lost: what they are to one another, in plain words. No program is named.
-/
import Derived.Test.YtngljhpplmbglaaGapL
import Derived.Test.YtngljhpplmbglaaGapC
import Derived.Test.YtngljhpplmbglaaGapS
import Derived.Test.YtngljhpplmbglaaSf
import Derived.Test.YtngljhpplmbglaaRf
namespace Go.Proofs.Ytngljhpplmbglaa.Gp
theorem _root_.Go.Proofs.Ytngljhpplmbglaa.Sp.getD_mem {s : List (Int × Int)} {i : Nat} (hi : i < s.length) : s.getD i (0, 0) ∈ s := by
  rw [List.getD_eq_getElem?_getD, List.getElem?_eq_getElem hi]
  exact List.getElem_mem hi
theorem pv_gl (b p q : Int) : pv ((b + p) % 16777216) ((b + q) % 16777216) = pv p q := by
  unfold pv
  rw [show ((b + q) % 16777216 - (b + p) % 16777216) % 16777216 = (q - p) % 16777216 by omega]
theorem gl_getD (b : Int) (s : List (Int × Int)) (i : Nat) (hi : i < 2 * s.length) : (gl b s).getD i 0 = (b + (Sp.flat s).getD i 0) % 16777216 := by
  unfold gl
  have h : i < (Sp.flat s).length := by rw [Sp.flat_len]; exact hi
  simp [List.getD, List.getElem?_eq_getElem h]
theorem gc_gl (b : Int) (s : List (Int × Int)) (k : Nat) (hk : k ≤ s.length) : gc (gl b s) k = gc (Sp.flat s) k := by
  induction k with
  | zero => rfl
  | succ k ih =>
    simp only [gc]
    rw [ih (by omega), gl_getD b s _ (by omega), gl_getD b s _ (by omega), pv_gl]

theorem gc_flat (s : List (Int × Int)) (hs : ∀ x ∈ s, 0 ≤ x.2 - x.1 ∧ x.2 - x.1 ≤ 8388608) (k : Nat) (hk : k ≤ s.length) : gc (Sp.flat s) k = Sp.total (s.take k) := by
  induction k with
  | zero => rfl
  | succ k ih =>
    have hx := hs _ (Sp.getD_mem (s := s) (i := k) (by omega))
    obtain ⟨e1, e2⟩ := Sp.flat_getD s k (by omega)
    simp only [gc]
    rw [ih (by omega), Sp.total_succ s k (by omega), e1, e2]
    congr 1
    unfold pv
    rw [Int.emod_eq_of_lt (by omega) (by omega), if_pos (by omega)]
theorem gc_all (b : Int) (s : List (Int × Int)) (hc : Sp.Canon s) (hs : ∀ x ∈ s, x.2 - x.1 ≤ 8388608) : gc (gl b s) ((gl b s).length / 2) = ((Sp.nums s).length : Int) := by
  rw [gl_len, show 2 * s.length / 2 = s.length by omega, gc_gl b s _ (Nat.le_refl _), gc_flat s (fun x hx => ⟨by have := hc.1 x hx; omega, hs x hx⟩) _ (Nat.le_refl _), List.take_length, Sp.nums_total s hc.1]
theorem ats_gl (b : Int) (s : List (Int × Int)) (hs : ∀ x ∈ s, 0 ≤ x.1 ∧ x.1 < 16777216 ∧ 0 ≤ x.2 ∧ x.2 < 16777216) : ats b (gl b s) = Sp.flat s := by
  unfold ats gl
  rw [List.map_map]
  have : ∀ y ∈ Sp.flat s, ((fun x => (x - b) % 16777216) ∘ fun x => (b + x) % 16777216) y = y := fun y hy => by
    unfold Sp.flat at hy
    obtain ⟨x, hx, hy⟩ := List.mem_flatMap.1 hy
    have := hs x hx
    simp only [List.mem_cons, List.not_mem_nil, or_false] at hy
    simp only [Function.comp]
    rcases hy with rfl | rfl <;> omega
  rw [List.map_congr_left this]
  simp
theorem prs_flat (s : List (Int × Int)) : prs (Sp.flat s) = s := by
  induction s with
  | nil => rfl
  | cons x s ih =>
    show (x.1, x.2) :: prs (Sp.flat s) = x :: s
    rw [ih]
theorem up_flat (E : Int) : ∀ (s : List (Int × Int)) (last : Int), Sp.Canon s → (∀ x ∈ s, last < x.1 ∧ x.2 ≤ E) → up E last (Sp.flat s) = true
  | [], _, _, _ => rfl
  | x :: s, last, hc, h => by
    have hx := h x (by simp)
    obtain ⟨h1, h2⟩ := hc.head
    have ih := up_flat E s x.2 hc.tail (fun y hy => ⟨h2 y hy, (h y (by simp [hy])).2⟩)
    show (decide (last < x.1) && decide (x.1 ≤ E) && (decide (x.1 < x.2) && decide (x.2 ≤ E) && up E x.2 (Sp.flat s))) = true
    rw [ih]
    simp only [Bool.and_true, Bool.and_eq_true, decide_eq_true_eq]
    omega
/-- A set's own pairs are right, with any end behind its last number and within half, and make the set. -/
theorem okSet_gl (b t : Int) (s : List (Int × Int)) (hc : Sp.Canon s) (hs : ∀ x ∈ s, 0 ≤ x.1 ∧ x.2 ≤ (t - b) % 16777216) (hE : (t - b) % 16777216 ≤ 8388608) : okSet b t (gl b s) = true ∧ prs (ats b (gl b s)) = s := by
  have ha : ats b (gl b s) = Sp.flat s := ats_gl b s fun x hx => by
    have := hs x hx
    have := hc.1 x hx
    omega
  refine ⟨?_, by rw [ha, prs_flat]⟩
  unfold okSet
  rw [ha, up_flat _ s (-1) hc (fun x hx => by have := hs x hx; omega), gl_len, decide_eq_true (show 2 * s.length % 2 = 0 by omega), decide_eq_true hE]
  rfl
end Go.Proofs.Ytngljhpplmbglaa.Gp

namespace Go.Proofs.Ytngljhpplmbglaa

namespace T2
theorem getD_at {α : Type} (l : List α) (d : α) {i : Nat} (h : i < l.length) : l.getD i d = l[i] := by simp [List.getD, List.getElem?_eq_getElem h]
theorem getD_app_l {α : Type} (l l' : List α) (d : α) (i : Nat) (h : i < l.length) : (l ++ l').getD i d = l.getD i d := by simp [List.getD, List.getElem?_append_left h]
theorem getD_app_r {α : Type} (l l' : List α) (d : α) (i : Nat) (h : l.length ≤ i) : (l ++ l').getD i d = l'.getD (i - l.length) d := by simp [List.getD, List.getElem?_append_right h]
/-- The message of a number. -/
def msg (B : Int) (L : List ByteArray) (n : Int) : ByteArray := L.getD (n - B).toNat default
/-- How much is in gaps that are still to be told. -/
def wid : List (Int × Int) → Int
  | [] => 0
  | g :: r => g.2 - g.1 + wid r

theorem tight {x : Sf.S} {lo hi hi' : Int} (h : Sf.Ok x lo hi) (hs : x.s ≤ hi') (hp : x.ps ≤ hi') (hu : x.units ≤ hi' - lo) (hl : hi' - lo ≤ 4000) : Sf.Ok x lo hi' := { h with hl := hl, shi := hs, phi := hp, units := ⟨h.units.1, hu⟩ }
theorem rtight {z : Rf.S} {lo hi hi' : Int} (h : Rf.Ok z lo hi) (hr : z.R ≤ hi') (hl : hi' - lo ≤ 8000000) : Rf.Ok z lo hi' := ⟨h.lo0, h.lor, hr, hl, h.rh, h.hm, h.sum, h.win, h.nod, h.keys, h.glen, h.gaps⟩

/-- What the two are to one another; got: what came. -/
structure Inv (B : Int) (L : List ByteArray) (x : Sf.S) (z : Rf.S) (got : List ByteArray) : Prop where
  ll : L.length ≤ 100
  sok : Sf.Ok x B (B + 3000)
  rok : Rf.Ok z B (B + 200)
  kept : ∀ n, x.a ≤ n → n < x.s → x.kept.getD (n - x.a).toNat default = msg B L n
  wait : x.wait = L.drop (x.s - B).toNat
  sl : x.s ≤ B + (L.length : Int)
  ar : x.a ≤ z.R
  hs : z.H ≤ x.s
  ms : x.ms ≤ z.MR
  buf : ∀ p ∈ z.buf, p.2 = msg B L p.1
  got : got = L.take (z.R - B).toNat
  ag : ∀ n ∈ x.again, n < z.H
/-- No more than so many units go out in a round. -/
def pot (x : Sf.S) (z : Rf.S) : Int := x.units + (x.again.length : Int) + wid z.gaps + (x.s - z.H) + 2 * (x.wait.length : Int)
/-- What gets less. -/
def mea (x : Sf.S) (z : Rf.S) : Int := (x.again.length : Int) + wid z.gaps + (z.gaps.length : Int) + (x.s - z.H) + 4 * (x.wait.length : Int)

variable {B : Int} {L : List ByteArray} {x x' : Sf.S} {z : Rf.S} {got : List ByteArray} {n : Int} {m : ByteArray}

theorem wid_nonneg : ∀ {l : List (Int × Int)}, (∀ g ∈ l, g.1 < g.2) → 0 ≤ wid l
  | [], _ => Int.le_refl _
  | g :: r, h => by
    have h1 := h g (by simp)
    have h2 := wid_nonneg (l := r) (fun g hg => h g (by simp [hg]))
    unfold wid
    omega
theorem Inv.wid0 (h : Inv B L x z got) : 0 ≤ wid z.gaps := wid_nonneg fun g hg => (h.rok.gaps g hg).2.1
theorem Inv.wlen (h : Inv B L x z got) : (x.wait.length : Int) = B + (L.length : Int) - x.s := by
  have h1 := h.sl
  have h2 := h.sok.la
  have h3 := h.sok.klen
  rw [h.wait, List.length_drop]
  omega
theorem Inv.mea0 (h : Inv B L x z got) : 0 ≤ mea x z := by
  have h1 := h.wid0
  have h2 := h.hs
  unfold mea
  omega

/-- A unit goes out. -/
structure Went (x x' : Sf.S) (z : Rf.S) (n : Int) : Prop where
  a : x'.a = x.a
  ps : x'.ps = x.ps
  ms : x'.ms = x.ms
  lo : x.a ≤ n
  hi : n < x'.s
  how : (n < z.H ∧ x'.s = x.s ∧ x.again = n :: x'.again) ∨ (n = x.s ∧ x'.s = x.s + 1 ∧ x.again = [] ∧ x'.again = [] ∧ x.s < x.ms)

theorem Inv.next (h : Inv B L x z got) {nw : Bool} (hn : Sf.next x = (x', n, m, nw, true)) (hp : pot x z ≤ 1500) (hps : x.ps ≤ B + 1000) :
    Inv B L x' z got ∧ pot x' z ≤ pot x z ∧ mea x' z < mea x z + (if n < z.H then 0 else -2) ∧ m = msg B L n ∧ Went x x' z n := by
  have hok := h.sok.next (by omega)
  rw [hn] at hok
  have w0 := h.wid0
  have h1 := h.sl
  have h2 := h.sok.la
  have h3 := h.sok.klen
  have h4 := h.hs
  have hu := h.sok.units
  have hll := h.ll
  have hwl := h.wlen
  unfold pot at hp
  unfold Sf.next at hn
  split at hn
  · rename_i n r ha
    simp only [Prod.mk.injEq] at hn
    obtain ⟨rfl, rfl, rfl, -, -⟩ := hn
    have hg := h.sok.ags n (by rw [ha]; simp)
    have hh := h.ag n (by rw [ha]; simp)
    rw [ha] at hp
    simp only [List.length_cons] at hp
    refine ⟨⟨h.ll, tight hok (by show x.s ≤ _; omega) (by show x.ps ≤ _; omega) (by show x.units + 1 ≤ _; omega) (by omega), h.rok, h.kept, h.wait, h.sl, h.ar, h.hs, h.ms, h.buf, h.got, fun k hk => h.ag k (by rw [ha]; simp [show k ∈ r from hk])⟩, ?_, ?_, h.kept n hg.1 hg.2, rfl, rfl, rfl, hg.1, hg.2, .inl ⟨hh, rfl, ha⟩⟩
    · unfold pot
      rw [ha]
      show x.units + 1 + (r.length : Int) + wid z.gaps + (x.s - z.H) + 2 * (x.wait.length : Int) ≤ x.units + (((n :: r).length : Nat) : Int) + wid z.gaps + (x.s - z.H) + 2 * (x.wait.length : Int)
      simp only [List.length_cons]
      omega
    · rw [if_pos hh]
      unfold mea
      rw [ha]
      show (r.length : Int) + wid z.gaps + (z.gaps.length : Int) + (x.s - z.H) + 4 * (x.wait.length : Int) < (((n :: r).length : Nat) : Int) + wid z.gaps + (z.gaps.length : Int) + (x.s - z.H) + 4 * (x.wait.length : Int) + 0
      simp only [List.length_cons]
      omega
  · rename_i ha
    split at hn
    · simp at hn
    · rename_i v r hw
      split at hn
      · simp at hn
      · rename_i hc
        simp only [Prod.mk.injEq] at hn
        obtain ⟨rfl, rfl, rfl, -, -⟩ := hn
        rw [hw] at hwl
        simp only [List.length_cons] at hwl
        have hk : (x.s - B).toNat < L.length := by omega
        have hd : v :: r = L.drop (x.s - B).toNat := by rw [← hw, h.wait]
        rw [List.drop_eq_getElem_cons hk] at hd
        injection hd with hv hr
        have hmsg : v = msg B L x.s := by unfold msg; rw [getD_at _ _ hk]; exact hv
        rw [hw] at hp
        simp only [List.length_cons] at hp
        have hnh : ¬ x.s < z.H := by omega
        refine ⟨⟨h.ll, tight hok (by show x.s + 1 ≤ _; omega) (by show x.ps ≤ _; omega) (by show x.units + 1 ≤ _; omega) (by omega), h.rok, fun k k1 k2 => ?_, ?_, by show x.s + 1 ≤ _; omega, h.ar, by show z.H ≤ x.s + 1; omega, h.ms, h.buf, h.got, fun k hk => ?_⟩, ?_, ?_, hmsg, rfl, rfl, rfl, ?_, ?_, .inr ⟨rfl, rfl, ha, ha, by omega⟩⟩
        · show (x.kept ++ [v]).getD (k - x.a).toNat default = _
          have k2 : k < x.s + 1 := k2
          have k1 : x.a ≤ k := k1
          by_cases e : k = x.s
          · subst e
            rw [getD_app_r _ _ _ _ (by omega), show (x.s - x.a).toNat - x.kept.length = 0 by omega]
            exact hmsg
          · rw [getD_app_l _ _ _ _ (by omega)]
            exact h.kept k k1 (by omega)
        · show r = L.drop (x.s + 1 - B).toNat
          rw [show (x.s + 1 - B).toNat = (x.s - B).toNat + 1 by omega]
          exact hr
        · have hk : k ∈ x.again := hk
          rw [ha] at hk
          cases hk
        · unfold pot
          rw [hw]
          show x.units + 1 + (x.again.length : Int) + wid z.gaps + (x.s + 1 - z.H) + 2 * (r.length : Int) ≤ x.units + (x.again.length : Int) + wid z.gaps + (x.s - z.H) + 2 * (((v :: r).length : Nat) : Int)
          simp only [List.length_cons]
          omega
        · rw [if_neg hnh]
          unfold mea
          rw [hw]
          show (x.again.length : Int) + wid z.gaps + (z.gaps.length : Int) + (x.s + 1 - z.H) + 4 * (r.length : Int) < (x.again.length : Int) + wid z.gaps + (z.gaps.length : Int) + (x.s - z.H) + 4 * (((v :: r).length : Nat) : Int) + -2
          simp only [List.length_cons]
          omega
        · show x.a ≤ x.s
          omega
        · show x.s < x.s + 1
          omega

/-- Nothing goes out. -/
theorem next_stop {nw : Bool} (hn : Sf.next x = (x', n, m, nw, false)) : x' = x ∧ x.again = [] ∧ (x.wait = [] ∨ x.ms ≤ x.s) := by
  unfold Sf.next at hn
  split at hn
  · simp at hn
  · rename_i ha
    split at hn
    · rename_i hw
      simp only [Prod.mk.injEq] at hn
      exact ⟨hn.1.symm, ha, .inl hw⟩
    · split at hn
      · rename_i hc
        simp only [Prod.mk.injEq] at hn
        exact ⟨hn.1.symm, ha, .inr hc⟩
      · simp at hn

/-! What comes. -/
theorem mget_pair {m : List (Int × ByteArray)} {n : Int} {v : ByteArray} (h : mget m n = some v) : (n, v) ∈ m := by
  induction m with
  | nil => cases h
  | cons p m ih =>
    rw [mget_cons] at h
    split at h
    · rename_i e
      injection h with h
      subst h e
      exact List.mem_cons_self ..
    · exact List.mem_cons_of_mem _ (ih h)
theorem dl_take {pre : List ByteArray} : ∀ (k : Nat) (r : Int) (m : List (Int × ByteArray)) (out : List ByteArray), (∀ p ∈ m, p.2 = msg B L p.1 ∧ p.1 < B + (L.length : Int)) → B ≤ r → pre ++ out = L.take (r - B).toNat →
    pre ++ (Rf.dl k r m out).2.2 = L.take ((Rf.dl k r m out).1 - B).toNat
  | 0, _, _, _, _, _, h => h
  | k + 1, r, m, out, hm, hr, h => by
    unfold Rf.dl
    cases hg : mget m r with
    | none => exact h
    | some v =>
      have hp := hm _ (mget_pair hg)
      have hk : (r - B).toNat < L.length := by have := hp.2; simp only at this; omega
      refine dl_take k (r + 1) (mdel m r) (out ++ [v]) (fun p hp => hm p (Rf.mdel_sub m r p hp).1) (by omega) ?_
      rw [← List.append_assoc, h, show (r + 1 - B).toNat = (r - B).toNat + 1 by omega, List.take_succ_eq_append_getElem hk]
      congr 2
      have := hp.1
      simp only at this
      rw [this]
      unfold msg
      rw [getD_at _ _ hk]

/-- What a unit leaves that comes. -/
structure Came (x : Sf.S) (z z' : Rf.S) (n : Int) : Prop where
  R : z.R ≤ z'.R
  MR : z'.MR = z.MR
  win : z'.window = z.window
  old : n < z.H → z'.H = z.H ∧ z'.gaps = []
  new : z.H ≤ n → z'.H = n + 1 ∧ z'.gaps.length ≤ 1 ∧ wid z'.gaps ≤ n - z.H ∧ (n = z.H → z'.gaps = [])
  miss : ∀ k, z'.R ≤ k → k < z'.H → Rf.has z' k = false → k ≠ n ∧ (k < z.H → z.R ≤ k ∧ Rf.has z k = false)

theorem Inv.data (h : Inv B L x z got) (h1 : x.a ≤ n) (h2 : n < x.s) (hg : z.gaps = []) :
    Inv B L x (Rf.data z n (msg B L n)).1 (got ++ (Rf.data z n (msg B L n)).2) ∧ Came x z (Rf.data z n (msg B L n)).1 n := by
  have hr := h.rok
  have hok := (hr.data n (msg B L n) (by omega)).2
  have q1 := hr.hm
  have q2 := hr.sum
  have q3 := hr.win
  have q4 := hr.rh
  have q5 := hr.lor
  have hlo := hr.lo0
  have hms := h.ms
  have hsms := h.sok.sms
  have hsl := h.sl
  have hll := h.ll
  have hla := h.sok.la
  have har := h.ar
  have hhs := h.hs
  have hrhi := hr.rhi
  by_cases ht : Rf.takes z (Rf.at_ z n) = true
  · have hR : z.R ≤ n := by
      refine Classical.byContradiction fun hc => ?_
      unfold Rf.takes Rf.at_ at ht
      rw [Bool.and_eq_true, decide_eq_true_eq] at ht
      have := ht.1
      omega
    have ea : Rf.at_ z n = n := by unfold Rf.at_; omega
    rw [ea] at ht
    obtain ⟨l1, l2, l3, l4, l5, l6⟩ := hr.laid (msg B L n) hR ht
    have hB : (Rf.lay z n (msg B L n)).buf = z.buf ++ [(n, msg B L n)] := rfl
    have hRR : (Rf.lay z n (msg B L n)).R = z.R := rfl
    have hH : (Rf.lay z n (msg B L n)).H = max z.H (n + 1) := rfl
    obtain ⟨d1, d2, d3⟩ := Rf.dl_spec (Rf.lay z n (msg B L n)).buf.length z.R (Rf.lay z n (msg B L n)).buf [] (fun p hp => (l2 p hp).1)
    have e : Rf.data z n (msg B L n) = Rf.deliver (Rf.lay z n (msg B L n)) := by unfold Rf.data; rw [ea, if_pos ht]
    rw [e] at hok ⊢
    have hbuf : ∀ p ∈ (Rf.lay z n (msg B L n)).buf, p.2 = msg B L p.1 := fun p hp => by
      rw [hB] at hp
      rcases List.mem_append.1 hp with hp | hp
      · exact h.buf p hp
      · rw [List.mem_singleton.1 hp]
    have hkey : ∀ p ∈ (Rf.lay z n (msg B L n)).buf, p.1 < B + (L.length : Int) := fun p hp => by
      have := (l2 p hp).2
      rw [hH] at this
      omega
    have hd := dl_take (B := B) (L := L) (pre := got) (Rf.lay z n (msg B L n)).buf.length z.R (Rf.lay z n (msg B L n)).buf [] (fun p hp => ⟨hbuf p hp, hkey p hp⟩) q5 (by rw [List.append_nil]; exact h.got)
    have hRle : (Rf.deliver (Rf.lay z n (msg B L n))).1.R ≤ B + 200 := by
      have a1 := hok.rh
      have a2 : (Rf.deliver (Rf.lay z n (msg B L n))).1.H = max z.H (n + 1) := rfl
      rw [a2] at a1
      omega
    refine ⟨⟨h.ll, h.sok, rtight hok hRle (by omega), h.kept, h.wait, h.sl, ?_, ?_, h.ms, ?_, ?_, ?_⟩, d1, rfl, rfl, ?_, ?_, ?_⟩
    · show x.a ≤ (Rf.dl _ _ _ _).1
      rw [hRR]
      omega
    · show max z.H (n + 1) ≤ x.s
      omega
    · intro p hp
      exact hbuf p ((d2 p).1 hp).1
    · exact hd
    · intro k hk
      have := h.ag k hk
      show k < max z.H (n + 1)
      omega
    · intro hn
      refine ⟨by show max z.H (n + 1) = z.H; omega, ?_⟩
      show (if n > z.H ∧ z.gaps.length < 8 then z.gaps ++ [(z.H, n)] else z.gaps) = []
      rw [if_neg (by omega), hg]
    · intro hn
      refine ⟨by show max z.H (n + 1) = n + 1; omega, ?_, ?_, ?_⟩
      · show (if n > z.H ∧ z.gaps.length < 8 then z.gaps ++ [(z.H, n)] else z.gaps).length ≤ 1
        rw [hg]
        split <;> simp
      · show wid (if n > z.H ∧ z.gaps.length < 8 then z.gaps ++ [(z.H, n)] else z.gaps) ≤ _
        rw [hg]
        split
        · show n - z.H + 0 ≤ _
          omega
        · show (0 : Int) ≤ _
          omega
      · intro e
        show (if n > z.H ∧ z.gaps.length < 8 then z.gaps ++ [(z.H, n)] else z.gaps) = []
        rw [if_neg (by omega), hg]
    · intro k k1 k2 k3
      have hn : k ∉ (Rf.deliver (Rf.lay z n (msg B L n))).1.buf.map (·.1) := fun hc => by
        have := (Rf.has_iff _ k).2 hc
        rw [k3] at this
        cases this
      have k1' : (Rf.dl (Rf.lay z n (msg B L n)).buf.length z.R (Rf.lay z n (msg B L n)).buf []).1 ≤ k := k1
      have hin : ∀ p ∈ (Rf.lay z n (msg B L n)).buf, p.1 ≠ k := fun p hp e => hn (List.mem_map.2 ⟨p, (d2 p).2 ⟨hp, by omega⟩, e⟩)
      refine ⟨fun e => hin (n, msg B L n) (by rw [hB]; simp) e.symm, fun _ => ⟨by omega, ?_⟩⟩
      cases hq : Rf.has z k with
      | false => rfl
      | true =>
        obtain ⟨p, hp, e⟩ := List.mem_map.1 ((Rf.has_iff z k).1 hq)
        exact absurd e (hin p (by rw [hB]; exact List.mem_append_left _ hp))
  · have e : Rf.data z n (msg B L n) = (z, []) := by unfold Rf.data; rw [if_neg ht]
    rw [e, List.append_nil]
    have hk : n < z.R ∨ Rf.has z n = true := by
      refine Classical.byContradiction fun hc => ht ?_
      have hR : z.R ≤ n := by omega
      have ea : Rf.at_ z n = n := by unfold Rf.at_; omega
      unfold Rf.takes
      rw [ea, decide_eq_true (by omega)]
      cases hq : Rf.has z n with
      | false => rfl
      | true => exact absurd (.inr hq) hc
    have hlt : n < z.H := by
      rcases hk with hk | hk
      · omega
      · obtain ⟨p, hp, e⟩ := List.mem_map.1 ((Rf.has_iff z n).1 hk)
        have := hr.keys p hp
        omega
    refine ⟨h, Int.le_refl _, rfl, rfl, fun _ => ⟨rfl, hg⟩, fun hh => by omega, fun k k1 k2 k3 => ⟨fun e => ?_, fun _ => ⟨k1, k3⟩⟩⟩
    subst e
    have k1 : z.R ≤ k := k1
    rcases hk with hk | hk
    · omega
    · have k3 : Rf.has z k = false := k3
      rw [k3] at hk; cases hk
/-- Neither more units in a round nor more to do. -/
theorem Came.pot {z' : Rf.S} (h : Came x z z' n) (w : Went x x' z n) (hg : z.gaps = []) : pot x' z' ≤ pot x' z ∧ mea x' z' ≤ mea x' z := by
  unfold T2.pot mea
  rw [hg]
  show x'.units + (x'.again.length : Int) + wid z'.gaps + (x'.s - z'.H) + 2 * (x'.wait.length : Int) ≤ x'.units + (x'.again.length : Int) + 0 + (x'.s - z.H) + 2 * (x'.wait.length : Int) ∧ (x'.again.length : Int) + wid z'.gaps + (z'.gaps.length : Int) + (x'.s - z'.H) + 4 * (x'.wait.length : Int) ≤ (x'.again.length : Int) + 0 + 0 + (x'.s - z.H) + 4 * (x'.wait.length : Int)
  by_cases hn : n < z.H
  · obtain ⟨e1, e2⟩ := h.old hn
    rw [e1, e2]
    show _ + 0 + _ + _ ≤ _ ∧ _ + 0 + ((0 : Nat) : Int) + _ + _ ≤ _
    omega
  · obtain ⟨e1, e2, e3, _⟩ := h.new (by omega)
    rcases w.how with ⟨c, _⟩ | ⟨c1, c2, _⟩
    · omega
    · rw [e1]
      omega

/-! Nothing is lost. -/
structure NL (x : Sf.S) (z : Rf.S) : Prop where
  H : z.H = x.s
  miss : ∀ k ∈ Rf.missing z, k ∈ x.again
theorem NL.step {z' : Rf.S} (h : NL x z) (w : Went x x' z n) (c : Came x z z' n) : NL x' z' := by
  have hH := h.H
  rcases w.how with ⟨w1, w2, w3⟩ | ⟨w1, w2, w3, w4, _⟩
  · obtain ⟨e1, _⟩ := c.old w1
    refine ⟨by rw [e1, w2]; exact hH, fun k hk => ?_⟩
    obtain ⟨k1, k2, k3⟩ := (Rf.mem_missing z' k).1 hk
    obtain ⟨m1, m2⟩ := c.miss k k1 k2 k3
    obtain ⟨m3, m4⟩ := m2 (by rw [← e1]; exact k2)
    have := h.miss k ((Rf.mem_missing z k).2 ⟨m3, by rw [← e1]; exact k2, m4⟩)
    rw [w3] at this
    exact (List.mem_cons.1 this).resolve_left m1
  · obtain ⟨e1, _, _, _⟩ := c.new (by omega)
    refine ⟨by omega, fun k hk => ?_⟩
    obtain ⟨k1, k2, k3⟩ := (Rf.mem_missing z' k).1 hk
    obtain ⟨m1, m2⟩ := c.miss k k1 k2 k3
    obtain ⟨m3, m4⟩ := m2 (by omega)
    have := h.miss k ((Rf.mem_missing z k).2 ⟨m3, by omega, m4⟩)
    rw [w3] at this
    cases this
theorem NL.gapless {z' : Rf.S} (h : NL x z) (w : Went x x' z n) (c : Came x z z' n) : z'.gaps = [] := by
  have hH := h.H
  rcases w.how with ⟨w1, _⟩ | ⟨w1, _⟩
  · exact (c.old w1).2
  · exact (c.new (by omega)).2.2.2 (by omega)
theorem NL.all (h : NL x z) {lo hi : Int} (hr : Rf.Ok z lo hi) (ha : x.again = []) : z.R = z.H := by
  have h1 := hr.rh
  refine Classical.byContradiction fun hc => ?_
  have : z.R ∈ Rf.missing z := (Rf.mem_missing z z.R).2 ⟨Int.le_refl _, by omega, by
    cases hq : Rf.has z z.R with
    | false => rfl
    | true =>
      obtain ⟨p, hp, e⟩ := List.mem_map.1 ((Rf.has_iff z _).1 hq)
      have := hr.keys p hp
      omega⟩
  have := h.miss _ this
  rw [ha] at this
  cases this

/-! A gap. -/
theorem fold_bd (g : Int × Int) {a b : Int} (ha : 0 ≤ a) : ∀ (l : List Int) (c : Int × Int), (∀ n ∈ l, a ≤ n ∧ n < b) → (c = (-1, -1) ∨ (a ≤ c.1 ∧ c.1 < c.2 ∧ c.2 ≤ b ∧ g.1 ≤ c.1 ∧ c.2 ≤ g.2)) →
    (l.foldl (Rf.ftStep g) c = (-1, -1) ∨ (a ≤ (l.foldl (Rf.ftStep g) c).1 ∧ (l.foldl (Rf.ftStep g) c).1 < (l.foldl (Rf.ftStep g) c).2 ∧ (l.foldl (Rf.ftStep g) c).2 ≤ b ∧ g.1 ≤ (l.foldl (Rf.ftStep g) c).1 ∧ (l.foldl (Rf.ftStep g) c).2 ≤ g.2))
  | [], _, _, h => h
  | n :: l, c, hl, h => by
    rw [List.foldl_cons]
    have hn := hl n (by simp)
    refine fold_bd g ha l _ (fun n hn => hl n (by simp [hn])) ?_
    unfold Rf.ftStep
    split
    · rename_i hc
      rcases h with rfl | h
      · right
        rw [if_pos (by decide)]
        show a ≤ n ∧ n < n + 1 ∧ n + 1 ≤ b ∧ g.1 ≤ n ∧ n + 1 ≤ g.2
        omega
      · right
        rw [if_neg (by omega)]
        show a ≤ c.1 ∧ c.1 < n + 1 ∧ n + 1 ≤ b ∧ g.1 ≤ c.1 ∧ n + 1 ≤ g.2
        have : n = c.2 := by omega
        omega
    · exact h
theorem gap_cases {lo hi : Int} (h : Rf.Ok z lo hi) (hl : z.gaps.length ≤ 1) :
    Rf.gap z = ({ z with gaps := [] }, 0, 0, false) ∨ ∃ f t, Rf.gap z = (Rf.renew { z with gaps := [] }, f, t, true) ∧ z.R ≤ f ∧ f < t ∧ t ≤ z.H ∧ t - f ≤ wid z.gaps ∧ z.gaps ≠ [] := by
  unfold Rf.gap
  have hlo := h.lo0
  have hlr := h.lor
  match hg : z.gaps with
  | [] => exact .inl rfl
  | [g] =>
    unfold Rf.gapL
    by_cases hf : 0 ≤ (Rf.ft z g).1
    · rw [if_pos hf]
      right
      have hb := fold_bd g (a := z.R) (b := z.H) (by omega) (Rf.missing z) (-1, -1) (fun n hn => by obtain ⟨h1, h2, _⟩ := (Rf.mem_missing z n).1 hn; exact ⟨h1, h2⟩) (.inl rfl)
      have hb : Rf.ft z g = (-1, -1) ∨ (z.R ≤ (Rf.ft z g).1 ∧ (Rf.ft z g).1 < (Rf.ft z g).2 ∧ (Rf.ft z g).2 ≤ z.H ∧ g.1 ≤ (Rf.ft z g).1 ∧ (Rf.ft z g).2 ≤ g.2) := hb
      rcases hb with hb | ⟨b1, b2, b3, b4, b5⟩
      · rw [hb] at hf
        exact absurd hf (by decide)
      · exact ⟨_, _, rfl, b1, b2, b3, by show _ ≤ g.2 - g.1 + 0; omega, by simp⟩
    · rw [if_neg hf]
      exact .inl rfl
  | _ :: _ :: _ => rw [hg] at hl; simp at hl

/-! What is told. -/
theorem opn_MR {y : Sf.S} (ha : y.a = z.R) (hm : y.ms ≤ z.MR) (hd : z.MR - z.R ≤ 64) (h0 : z.R ≤ z.MR) : Sf.opn y (z.MR % 16777216) = { y with ms := z.MR } := by
  have e : Sf.at_ y (z.MR % 16777216) = z.MR := by unfold Sf.at_; rw [ha]; omega
  unfold Sf.opn
  rw [if_pos ⟨by rw [ha]; omega, by rw [e]; exact hm⟩, e]
theorem filter_or {p q : Int → Bool} : ∀ (l : List Int), (l.filter fun n => p n || q n).length ≤ (l.filter p).length + (l.filter q).length
  | [] => Nat.zero_le _
  | n :: l => by
    have := filter_or (p := p) (q := q) l
    simp only [List.filter_cons]
    cases p n <;> cases q n <;> simp <;> omega
theorem filter_eq {a : Int} : ∀ {l : List Int}, l.Nodup → (l.filter fun n => decide (n = a)).length ≤ 1
  | [], _ => Nat.zero_le _
  | n :: l, h => by
    obtain ⟨h1, h2⟩ := List.nodup_cons.1 h
    rw [List.filter_cons]
    by_cases e : n = a
    · subst e
      have : (l.filter fun m => decide (m = n)) = [] := by
        rw [List.filter_eq_nil_iff]
        intro m hm
        simp only [decide_eq_true_eq]
        intro e
        exact h1 (e ▸ hm)
      rw [if_pos (by simp), this]
      simp
    · rw [if_neg (by simpa using e)]
      exact filter_eq h2
theorem filter_mem {l : List Int} (hl : l.Nodup) : ∀ (s : List Int), (l.filter fun n => decide (n ∈ s)).length ≤ s.length
  | [] => by simp
  | a :: s => by
    have h1 := filter_mem hl s
    have h2 := filter_eq (a := a) hl
    have h3 := filter_or (p := fun n => decide (n = a)) (q := fun n => decide (n ∈ s)) l
    have e : (l.filter fun n => decide (n ∈ a :: s)) = l.filter fun n => decide (n = a) || decide (n ∈ s) := List.filter_congr fun n _ => by simp
    rw [e, List.length_cons]
    omega
theorem rising_nodup {l : List Int} (h : Sp.Rising l) : l.Nodup := h.imp (fun {a b} hab => by omega)
theorem merge_len (y : Sf.S) (m : List Int) : (Sf.merge y m).length ≤ y.again.length + m.length := by
  have hn := rising_nodup (Sf.nums_rising y)
  have h1 := filter_or (p := fun n => decide (n ∈ y.again)) (q := fun n => decide (n ∈ m)) (Sf.nums y)
  have h2 := filter_mem hn y.again
  have h3 := filter_mem hn m
  unfold Sf.merge
  omega

/-- A report that may be. -/
structure Told (x y : Sf.S) (z : Rf.S) : Prop where
  a : y.a = z.R
  s : y.s = x.s
  ms : y.ms = z.MR
  kept : y.kept = x.kept.drop (z.R - x.a).toNat
  wait : y.wait = x.wait
  ps : y.ps = x.ps
  units : y.units = x.units
theorem Inv.told {y : Sf.S} (h : Inv B L x z got) (t : Told x y z) (hok : Sf.Ok y B (B + 3000)) (hag : ∀ n ∈ y.again, n < z.H) : Inv B L y z got := by
  have har := h.ar
  refine ⟨h.ll, hok, h.rok, fun n n1 n2 => ?_, by rw [t.wait, t.s]; exact h.wait, by rw [t.s]; exact h.sl, by rw [t.a]; exact Int.le_refl _, by rw [t.s]; exact h.hs, by rw [t.ms]; exact Int.le_refl _, h.buf, h.got, hag⟩
  rw [t.a] at n1 ⊢
  rw [t.s] at n2
  rw [← h.kept n (by omega) n2, t.kept, List.getD_eq_getElem?_getD, List.getD_eq_getElem?_getD, List.getElem?_drop]
  congr 2
  omega
theorem Inv.dist (h : Inv B L x z got) : z.MR - z.R ≤ 64 ∧ z.R ≤ z.MR ∧ z.R ≤ z.H ∧ z.H ≤ z.MR := by
  have h1 := h.rok.sum
  have h2 := h.rok.win
  have h3 := h.rok.rh
  have h4 := h.rok.hm
  omega
/-- A set of numbers that are missing may be told. -/
theorem Inv.toldOk (h : Inv B L x z got) {T : List (Int × Int)} (hc : Sp.Canon T) (hT : ∀ p ∈ T, 0 ≤ p.1 ∧ p.2 ≤ z.H - z.R) :
    Sf.at_ x (z.R % 16777216) = z.R ∧ Sf.toldOk x (z.R % 16777216) (Gp.gl z.R T) = true ∧ Sf.told x z.R (Gp.gl z.R T) = Sp.nums T := by
  have h1 := h.ar
  have h2 := h.hs
  have h3 := h.sl
  have h4 := h.ll
  have h5 := h.sok.la
  obtain ⟨h6, h7, h8, h9⟩ := h.dist
  have e : Sf.at_ x (z.R % 16777216) = z.R := by unfold Sf.at_; omega
  have hE : (x.s - z.R) % 16777216 = x.s - z.R := by omega
  obtain ⟨k1, k2⟩ := Gp.okSet_gl z.R x.s T hc (fun p hp => by have := hT p hp; rw [hE]; omega) (by rw [hE]; omega)
  refine ⟨e, ?_, ?_⟩
  · unfold Sf.toldOk
    rw [e, k1, decide_eq_true (by omega)]
    rfl
  · unfold Sf.told
    rw [k2]
theorem Inv.ustat (h : Inv B L x z got) {f t : Int} (hf : z.R ≤ f) (hft : f < t) (ht : t ≤ z.H) :
    ∃ y c, Sf.ustat x (z.R % 16777216) (z.MR % 16777216) [f % 16777216, t % 16777216] = (y, c, 0) ∧ Inv B L y z got ∧ Told x y z ∧ (y.again.length : Int) ≤ x.again.length + (t - f) := by
  have h1 := h.ar
  have h2 := h.hs
  obtain ⟨h6, h7, h8, h9⟩ := h.dist
  have hc : Sp.Canon [(f - z.R, t - z.R)] := ⟨fun p hp => by rw [List.mem_singleton.1 hp]; show f - z.R < t - z.R; omega, by simp⟩
  have hgl : Gp.gl z.R [(f - z.R, t - z.R)] = [f % 16777216, t % 16777216] := by
    unfold Gp.gl Sp.flat
    simp only [List.flatMap_cons, List.flatMap_nil, List.append_nil, List.map_cons, List.map_nil]
    rw [show z.R + (f - z.R) = f by omega, show z.R + (t - z.R) = t by omega]
  obtain ⟨e1, e2, e3⟩ := h.toldOk hc (fun p hp => by rw [List.mem_singleton.1 hp]; show 0 ≤ f - z.R ∧ t - z.R ≤ z.H - z.R; omega)
  rw [hgl] at e2 e3
  have hok := h.sok.ustat (z.R % 16777216) (z.MR % 16777216) [f % 16777216, t % 16777216]
  have ho : Sf.opn (Sf.ack x z.R) (z.MR % 16777216) = { Sf.ack x z.R with ms := z.MR } := opn_MR rfl h.ms h6 h7
  unfold Sf.ustat at hok ⊢
  rw [e2, if_neg (by decide)] at hok ⊢
  simp only [e1, e3, ho] at hok ⊢
  have hto : Told x (Sf.rep { Sf.ack x z.R with ms := z.MR } none (Sp.nums [(f - z.R, t - z.R)])).1 z := ⟨rfl, rfl, rfl, rfl, rfl, rfl, rfl⟩
  refine ⟨_, _, rfl, h.told hto hok (fun n hn => ?_), hto, ?_⟩
  · have hn : n ∈ Sf.merge { Sf.ack x z.R with ms := z.MR } (Sf.more { Sf.ack x z.R with ms := z.MR } none (Sp.nums [(f - z.R, t - z.R)])) := hn
    have := (List.mem_filter.1 hn).2
    rw [Bool.or_eq_true, decide_eq_true_eq, decide_eq_true_eq] at this
    rcases this with hm | hm
    · exact h.ag n (List.mem_filter.1 hm).1
    · have := (Sf.more_mem.1 hm).1
      obtain ⟨p, hp, q1, q2⟩ := (Sp.mem_nums _ _).1 this
      rw [List.mem_singleton.1 hp] at q1 q2
      have q2 : n - z.R < t - z.R := q2
      omega
  · show ((Sf.merge { Sf.ack x z.R with ms := z.MR } (Sf.more { Sf.ack x z.R with ms := z.MR } none (Sp.nums [(f - z.R, t - z.R)]))).length : Int) ≤ _
    have a1 := merge_len { Sf.ack x z.R with ms := z.MR } (Sf.more { Sf.ack x z.R with ms := z.MR } none (Sp.nums [(f - z.R, t - z.R)]))
    have a2 := Sf.more_len { Sf.ack x z.R with ms := z.MR } none (Sp.nums [(f - z.R, t - z.R)])
    have a3 : (Sp.nums [(f - z.R, t - z.R)]).length = (t - f).toNat := by
      unfold Sp.nums Sp.run
      simp only [List.flatMap_cons, List.flatMap_nil, List.append_nil, List.length_map, List.length_range]
      congr 1
      omega
    have a4 : ({ Sf.ack x z.R with ms := z.MR } : Sf.S).again.length ≤ x.again.length := List.length_filter_le _ _
    omega
theorem Inv.stat (h : Inv B L x z got) (hl : ∀ v ∈ x.last, v < x.ps) {T : List (Int × Int)} (hc : Sp.Canon T) (hT : ∀ p ∈ T, 0 ≤ p.1 ∧ p.2 ≤ z.H - z.R) (hm : Rf.missing z = (Sp.nums T).map (z.R + ·)) :
    ∃ y c, Sf.stat x (z.R % 16777216) (z.MR % 16777216) (x.ps % 16777216) (Gp.gl z.R T) = (y, c, 0) ∧ Inv B L y z got ∧ Told x y z ∧ ∀ n ∈ Rf.missing z, n ∈ y.again := by
  have h1 := h.ar
  have h2 := h.hs
  obtain ⟨h6, h7, h8, h9⟩ := h.dist
  have p1 := h.sok.lpa
  have p2 := h.sok.pas
  have p3 := h.sok.phi
  have p4 := h.sok.llen
  have p5 := h.sok.klen
  have hp : Sf.pollAt x (x.ps % 16777216) = x.ps := by unfold Sf.pollAt; omega
  obtain ⟨e1, e2, e3⟩ := h.toldOk hc hT
  have hok := h.sok.stat (z.R % 16777216) (z.MR % 16777216) (x.ps % 16777216) (Gp.gl z.R T)
  have ho : Sf.opn { Sf.ack x z.R with pa := x.ps } (z.MR % 16777216) = { Sf.ack x z.R with pa := x.ps, ms := z.MR } := opn_MR (y := { Sf.ack x z.R with pa := x.ps }) rfl h.ms h6 h7
  unfold Sf.stat at hok ⊢
  rw [hp, if_neg (by omega), e2, if_neg (by decide)] at hok ⊢
  simp only [e1, e3, ho] at hok ⊢
  have hto : Told x (Sf.rep { Sf.ack x z.R with pa := x.ps, ms := z.MR } (some x.ps) (Sp.nums T)).1 z := ⟨rfl, rfl, rfl, rfl, rfl, rfl, rfl⟩
  refine ⟨_, _, rfl, h.told hto hok (fun n hn => ?_), hto, fun n hn => ?_⟩
  · have hn : n ∈ Sf.merge { Sf.ack x z.R with pa := x.ps, ms := z.MR } (Sf.more { Sf.ack x z.R with pa := x.ps, ms := z.MR } (some x.ps) (Sp.nums T)) := hn
    have := (List.mem_filter.1 hn).2
    rw [Bool.or_eq_true, decide_eq_true_eq, decide_eq_true_eq] at this
    rcases this with hm2 | hm2
    · exact h.ag n (List.mem_filter.1 hm2).1
    · have := (Sf.more_mem.1 hm2).1
      obtain ⟨p, hp, q1, q2⟩ := (Sp.mem_nums _ _).1 this
      have q2 : n - z.R < p.2 := q2
      have := hT p hp
      omega
  · show n ∈ Sf.merge { Sf.ack x z.R with pa := x.ps, ms := z.MR } (Sf.more { Sf.ack x z.R with pa := x.ps, ms := z.MR } (some x.ps) (Sp.nums T))
    obtain ⟨q1, q2, q3⟩ := (Rf.mem_missing z n).1 hn
    refine List.mem_filter.2 ⟨Sf.mem_nums.2 ⟨q1, by show n < x.s; omega⟩, ?_⟩
    rw [Bool.or_eq_true, decide_eq_true_eq, decide_eq_true_eq]
    by_cases ha : n ∈ ({ Sf.ack x z.R with pa := x.ps, ms := z.MR } : Sf.S).again
    · exact .inl ha
    · right
      refine Sf.more_mem.2 ⟨?_, ?_, ha⟩
      · rw [hm] at hn
        obtain ⟨k, hk, e⟩ := List.mem_map.1 hn
        show n - z.R ∈ Sp.nums T
        rw [← e, show z.R + k - z.R = k by omega]
        exact hk
      · show (decide ((x.last.drop (z.R - x.a).toNat).getD (n - z.R).toNat 0 < x.ps) && decide (x.ps - (x.last.drop (z.R - x.a).toNat).getD (n - z.R).toNat 0 < 8388608)) = true
        have hi : (n - z.R).toNat < (x.last.drop (z.R - x.a).toNat).length := by rw [List.length_drop]; omega
        have hv : (x.last.drop (z.R - x.a).toNat).getD (n - z.R).toNat 0 ∈ x.last := by
          rw [getD_at _ _ hi]
          exact List.mem_of_mem_drop (List.getElem_mem hi)
        have b1 := hl _ hv
        have b2 := h.sok.lasts _ hv
        rw [Bool.and_eq_true, decide_eq_true_eq, decide_eq_true_eq]
        omega

/-! The rounds. -/
/-- At the head of round r. -/
structure Head (B : Int) (L : List ByteArray) (x : Sf.S) (z : Rf.S) (got : List ByteArray) (r : Nat) : Prop where
  inv : Inv B L x z got
  gaps : z.gaps = []
  a : x.a = z.R
  nl : NL x z
  room : z.R < x.ms
  units : x.units = 0
  ps : x.ps ≤ B + (r : Int)
  full : 51 ≤ r → x.a = x.s
  less : 51 ≤ r → (x.wait.length : Int) + (r : Int) ≤ 151
theorem again_le {lo hi : Int} (h : Sf.Ok x lo hi) : (x.again.length : Int) ≤ x.s - x.a := by
  have h1 := h.klen
  have h2 := Rf.rising_len (l := x.again.map (· - x.a)) (by
    have := h.sorted
    exact List.Pairwise.map _ (fun a b hab => by show a - x.a < b - x.a; omega) this) x.kept.length (fun n hn => by
      obtain ⟨k, hk, rfl⟩ := List.mem_map.1 hn
      have := h.ags k hk
      show 0 ≤ k - x.a ∧ k - x.a < _
      omega)
  rw [List.length_map] at h2
  omega
theorem Head.pot {r : Nat} (h : Head B L x z got r) : pot x z ≤ 1500 ∧ mea x z ≤ 1500 := by
  have h1 := h.inv.sl
  have h2 := h.inv.sok.la
  have h3 := h.inv.wlen
  have h4 := h.inv.ll
  have h5 := again_le h.inv.sok
  have h6 := h.nl.H
  have h7 := h.inv.sok.klen
  unfold T2.pot mea
  rw [h.gaps, h.units, h6]
  show 0 + _ + 0 + _ + _ ≤ _ ∧ _ + 0 + ((0 : Nat) : Int) + _ + _ ≤ _
  omega
/-- Within round r; x0 was there at its head. -/
structure Mid (B : Int) (L : List ByteArray) (x0 x : Sf.S) (z : Rf.S) (got : List ByteArray) (r : Nat) : Prop where
  inv : Inv B L x z got
  gaps : z.gaps = []
  pot : pot x z ≤ 1500
  ps : x.ps = x0.ps
  a : x0.a ≤ x.a
  s : x0.s ≤ x.s
  ms : x0.ms ≤ x.ms
  nl : 50 ≤ r → NL x z
theorem Head.mid {r : Nat} (h : Head B L x z got r) : Mid B L x x z got r := ⟨h.inv, h.gaps, h.pot.1, rfl, Int.le_refl _, Int.le_refl _, Int.le_refl _, fun _ => h.nl⟩

variable {x0 : Sf.S} {r : Nat}
theorem Mid.psb (h : Mid B L x0 x z got r) (hh : Head B L x0 z got r ∨ x0.ps ≤ B + (r : Int)) (hr : r ≤ 400) : x.ps ≤ B + 1000 := by
  have := h.ps
  rcases hh with hh | hh
  · have := hh.ps; omega
  · omega
/-- A unit is lost. -/
theorem Mid.lost (h : Mid B L x0 x z got r) (hr : r < 50) (hps : x.ps ≤ B + 1000) {nw : Bool} (hn : Sf.next x = (x', n, m, nw, true)) : Mid B L x0 x' z got r ∧ mea x' z < mea x z := by
  obtain ⟨h1, h2, h3, _, w⟩ := h.inv.next hn h.pot hps
  have hs : x.s ≤ x'.s := by rcases w.how with ⟨_, e, _⟩ | ⟨_, e, _⟩ <;> omega
  refine ⟨⟨h1, h.gaps, by have := h.pot; omega, by rw [w.ps]; exact h.ps, by rw [w.a]; exact h.a, by have := h.s; omega, by rw [w.ms]; exact h.ms, fun hc => by omega⟩, ?_⟩
  split at h3 <;> omega
/-- A unit comes: what there is ahead of the gaps' telling. -/
structure Mid2 (B : Int) (L : List ByteArray) (x0 x : Sf.S) (z : Rf.S) (got : List ByteArray) (r : Nat) : Prop where
  inv : Inv B L x z got
  gaps : z.gaps.length ≤ 1
  pot : pot x z ≤ 1500
  ps : x.ps = x0.ps
  a : x0.a ≤ x.a
  s : x0.s ≤ x.s
  ms : x0.ms ≤ x.ms
  nl : 50 ≤ r → NL x z ∧ z.gaps = []
theorem Mid.comes (h : Mid B L x0 x z got r) (hps : x.ps ≤ B + 1000) {nw : Bool} (hn : Sf.next x = (x', n, m, nw, true)) :
    Mid2 B L x0 x' (Rf.data z n m).1 (got ++ (Rf.data z n m).2) r ∧ mea x' (Rf.data z n m).1 < mea x z := by
  obtain ⟨h1, h2, h3, rfl, w⟩ := h.inv.next hn h.pot hps
  have hs : x.s ≤ x'.s := by rcases w.how with ⟨_, e, _⟩ | ⟨_, e, _⟩ <;> omega
  obtain ⟨d1, c⟩ := h1.data (n := n) (by rw [w.a]; exact w.lo) w.hi h.gaps
  have c' : Came x z (Rf.data z n (msg B L n)).1 n := ⟨c.R, c.MR, c.win, c.old, c.new, c.miss⟩
  obtain ⟨p1, p2⟩ := c'.pot w h.gaps
  refine ⟨⟨d1, ?_, by have := h.pot; omega, by rw [w.ps]; exact h.ps, by rw [w.a]; exact h.a, by have := h.s; omega, by rw [w.ms]; exact h.ms, fun hc => ⟨(h.nl hc).step w c', (h.nl hc).gapless w c'⟩⟩, ?_⟩
  · by_cases hh : n < z.H
    · rw [(c.old hh).2]; simp
    · exact (c.new (by omega)).2.1
  · split at h3 <;> omega
theorem Inv.ungap (h : Inv B L x z got) : Inv B L x { z with gaps := [] } got := ⟨h.ll, h.sok, h.rok.gapless [] (fun _ hg => by cases hg) (by simp), h.kept, h.wait, h.sl, h.ar, h.hs, h.ms, h.buf, h.got, h.ag⟩
theorem Inv.renew (h : Inv B L x z got) : Inv B L x (Rf.renew z) got := ⟨h.ll, h.sok, h.rok.renew.2, h.kept, h.wait, h.sl, h.ar, h.hs, by have := h.ms; show x.ms ≤ max z.MR _; omega, h.buf, h.got, h.ag⟩
theorem Mid2.tell (h : Mid2 B L x0 x z got r) :
    (Rf.gap z = ({ z with gaps := [] }, 0, 0, false) ∧ Mid B L x0 x { z with gaps := [] } got r ∧ mea x { z with gaps := [] } ≤ mea x z) ∨
    ∃ z' f t y c, Rf.gap z = (z', f, t, true) ∧ Sf.ustat x (z'.R % 16777216) (z'.MR % 16777216) [f % 16777216, t % 16777216] = (y, c, 0) ∧ Mid2 B L x0 y z' got r ∧ mea y z' < mea x z ∧ z'.gaps.length < z.gaps.length := by
  have hw := h.inv.wid0
  rcases gap_cases h.inv.rok h.gaps with e | ⟨f, t, e, f1, f2, f3, f4, f5⟩
  · left
    refine ⟨e, ⟨h.inv.ungap, rfl, ?_, h.ps, h.a, h.s, h.ms, fun hc => ⟨(h.nl hc).1.H, (h.nl hc).1.miss⟩⟩, ?_⟩
    · have := h.pot
      unfold T2.pot at this ⊢
      show x.units + (x.again.length : Int) + 0 + (x.s - z.H) + 2 * (x.wait.length : Int) ≤ _
      omega
    · unfold mea
      show (x.again.length : Int) + 0 + ((0 : Nat) : Int) + (x.s - z.H) + 4 * (x.wait.length : Int) ≤ _
      omega
  · right
    have hi : Inv B L x (Rf.renew { z with gaps := [] }) got := h.inv.ungap.renew
    obtain ⟨y, c, u1, u2, u3, u4⟩ := hi.ustat f1 f2 f3
    have hlen : 1 ≤ z.gaps.length := by
      cases hq : z.gaps with
      | nil => exact absurd hq f5
      | cons g l => simp
    have har := h.inv.ar
    refine ⟨_, f, t, y, c, e, u1, ⟨u2, by show ([] : List (Int × Int)).length ≤ 1; simp, ?_, by rw [u3.ps]; exact h.ps, ?_, by rw [u3.s]; exact h.s, ?_, fun hc => absurd (h.nl hc).2 f5⟩, ?_, by show ([] : List (Int × Int)).length < _; simp; omega⟩
    · have := h.pot
      unfold T2.pot at this ⊢
      rw [u3.units, u3.s, u3.wait]
      show x.units + (y.again.length : Int) + 0 + (x.s - z.H) + 2 * (x.wait.length : Int) ≤ _
      omega
    · have := h.a
      rw [u3.a]
      show x0.a ≤ z.R
      omega
    · have := h.ms
      have := hi.ms
      rw [u3.ms]
      omega
    · unfold mea
      rw [u3.s, u3.wait]
      show (y.again.length : Int) + 0 + ((0 : Nat) : Int) + (x.s - z.H) + 4 * (x.wait.length : Int) < _
      omega

theorem Mid.near (h : Mid B L x0 x z got r) : 0 ≤ x.s - z.R ∧ x.s - z.R ≤ 200 := by
  have h1 := h.inv.sl
  have h2 := h.inv.ll
  have h3 := h.inv.rok.lor
  have h4 := h.inv.rok.rh
  have h5 := h.inv.hs
  omega
theorem Mid.mea0 (h : Mid B L x0 x z got r) : 0 ≤ mea x z := h.inv.mea0
theorem Mid2.rok (h : Mid2 B L x0 x z got r) : Rf.Ok z B (B + 200) := h.inv.rok
theorem Mid2.sok (h : Mid2 B L x0 x z got r) : Sf.Ok x B (B + 3000) := h.inv.sok
/-- Behind the last unit of a round: is nothing outstanding? -/
theorem Mid.idle (h : Mid B L x0 x z got r) (hk : x.kept = []) (hw : x.wait = []) : got = L := by
  have h1 := h.inv.wlen
  have h2 := h.inv.sok.klen
  have h3 := h.inv.ar
  have h4 := h.inv.rok.rh
  have h5 := h.inv.hs
  rw [hw] at h1
  rw [hk] at h2
  simp at h1 h2
  rw [h.inv.got, show (z.R - B).toNat = L.length by omega, List.take_length]
/-- The poll and its answer: the next round's head. -/
theorem Mid.goes_on (h : Mid B L x0 x z got r) {z0 : Rf.S} {got0 : List ByteArray} (hh : Head B L x0 z0 got0 r) (ha : x.again = []) (hm : x.wait = [] ∨ x.ms ≤ x.s) (hi : ¬ (x.kept = [] ∧ x.wait = [])) (hr : r < 400) :
    Rf.pollOk z (x.s % 16777216) = true ∧ (Rf.poll z (x.s % 16777216)).inbox.length ≤ 64 ∧
    ∀ (z2 : Rf.S) (T : List (Int × Int)), z2 = Rf.renew { Rf.poll z (x.s % 16777216) with inbox := [] } → Rv.Miss (Rf.prog { Rf.poll z (x.s % 16777216) with inbox := [] }) T →
      ∃ y c, Sf.stat (Sf.poll x) (z2.R % 16777216) (z2.MR % 16777216) ((x.ps + 1) % 16777216) (Gp.gl (z2.R % 16777216) T) = (y, c, 0) ∧ Head B L y z2 got (r + 1) ∧ ((Sp.nums T).length : Int) ≤ (if z2.R = x.s then 0 else 16777216) ∧ Sp.Canon T ∧ (∀ p ∈ T, 0 ≤ p.1 ∧ p.2 ≤ 200) := by
  have q1 := h.inv.ar
  have q2 := h.inv.hs
  have q3 := h.inv.ms
  have q4 := h.inv.sok.sms
  obtain ⟨q5, q6, q7, q8⟩ := h.inv.dist
  have q9 := h.inv.sl
  have q10 := h.inv.sok.la
  have q11 := h.inv.ll
  have q12 := h.inv.rok.sum
  have q13 := h.inv.rok.win
  have q14 := h.inv.wlen
  have q15 := h.inv.sok.klen
  have hps := h.ps
  have hps0 := hh.ps
  have hpt := h.pot
  have hw0 := h.inv.wid0
  have hat : Rf.at_ z (x.s % 16777216) = x.s := by unfold Rf.at_; omega
  have hpo : Rf.pollOk z (x.s % 16777216) = true := by
    unfold Rf.pollOk
    rw [hat, decide_eq_true q2, decide_eq_true (by omega)]
    rfl
  have hpl : Rf.poll z (x.s % 16777216) = { z with H := x.s } := by unfold Rf.poll; rw [if_pos hpo, hat]
  refine ⟨hpo, ?_, ?_⟩
  · rw [hpl]
    show z.inbox.length ≤ 64
    omega
  · rw [hpl]
    intro z2 T hz hT
    have hrok : Rf.Ok { z with H := x.s } B (B + 200) := by have := (h.inv.rok.poll (x.s % 16777216)).2; rw [hpl] at this; exact this
    have hrok1 : Rf.Ok { z with H := x.s, inbox := [] } B (B + 200) := by have := hrok.take z.inbox.length; rw [List.drop_length] at this; exact this
    have hsok : Sf.Ok (Sf.poll x) B (B + 3000) := by
      have := h.inv.sok.poll (by omega)
      exact tight this (by show x.s ≤ _; omega) (by show x.ps + 1 ≤ _; omega) (by show (0 : Int) ≤ _; omega) (by omega)
    have hinv1 : Inv B L (Sf.poll x) { z with H := x.s, inbox := [] } got := ⟨h.inv.ll, hsok, hrok1, h.inv.kept, h.inv.wait, q9, q1, Int.le_refl _, q3, h.inv.buf, h.inv.got, fun n hn => (h.inv.sok.ags n hn).2⟩
    have hinv2 : Inv B L (Sf.poll x) z2 got := by rw [hz]; exact hinv1.renew
    have hmiss := hrok1.miss hT
    have hR : z2.R = z.R := by rw [hz]; rfl
    have hH : z2.H = x.s := by rw [hz]; rfl
    have hMR : z2.MR = max z.MR (z.R + z.window - 0) := by rw [hz]; rfl
    have hG : z2.gaps = [] := by rw [hz]; exact h.gaps
    have hm2 : Rf.missing z2 = (Sp.nums T).map (z2.R + ·) := by rw [hR, hz]; exact hmiss
    have hdist : ((Rf.prog { z with H := x.s, inbox := [] }).h - (Rf.prog { z with H := x.s, inbox := [] }).r) % 16777216 = x.s - z.R := hrok1.dist
    have hTb : ∀ p ∈ T, 0 ≤ p.1 ∧ p.2 ≤ x.s - z.R := fun p hp => by
      have hlt := hT.1.1.1 p hp
      have m1 := (hT.2 p.1).1 ⟨p, hp, by omega, by omega⟩
      have m2 := (hT.2 (p.2 - 1)).1 ⟨p, hp, by omega, by omega⟩
      rw [hdist] at m1 m2
      omega
    obtain ⟨y, c, s1, s2, s3, s4⟩ := hinv2.stat (fun v hv => by have := h.inv.sok.lasts v hv; show v < x.ps + 1; omega) hT.1.1 (fun p hp => by rw [hH, hR]; exact hTb p hp) hm2
    have hgl : Gp.gl (z2.R % 16777216) T = Gp.gl z2.R T := by
      unfold Gp.gl
      refine List.map_congr_left fun k _ => ?_
      omega
    have hroom : z2.R < z2.MR := by rw [hR, hMR]; omega
    have hlen : (Rf.missing z2).length = (Sp.nums T).length := by rw [hm2, List.length_map]
    have hml : ((Rf.missing z2).length : Int) ≤ x.s - z.R := by
      have := Rf.missK_len z2 (z2.H - z2.R).toNat
      have e : Rf.missK z2 (z2.H - z2.R).toNat = Rf.missing z2 := rfl
      rw [e] at this
      rw [hH, hR] at this
      omega
    refine ⟨y, c, ?_, ⟨s2, hG, s3.a, ⟨by rw [hH, s3.s]; rfl, s4⟩, by rw [s3.ms]; exact hroom, by rw [s3.units]; rfl, ?_, ?_, ?_⟩, ?_, hT.1.1, fun p hp => by have := hTb p hp; omega⟩
    · rw [hgl]; exact s1
    · rw [s3.ps]
      show x.ps + 1 ≤ B + ((r + 1 : Nat) : Int)
      omega
    · intro hc
      have := (h.nl (by omega)).all h.inv.rok ha
      have hH2 := (h.nl (by omega)).H
      rw [s3.a, s3.s, hR]
      show z.R = x.s
      omega
    · intro hc
      rw [s3.wait]
      show (x.wait.length : Int) + ((r + 1 : Nat) : Int) ≤ 151
      by_cases hc2 : 51 ≤ r
      · have f1 := hh.full hc2
        have f2 := hh.less hc2
        have f3 := hh.room
        have f4 := hh.a
        have f5 := hh.inv.wlen
        have f6 := h.s
        have f7 := h.ms
        have f8 := h.a
        rcases hm with hm | hm
        · by_cases hw : x0.wait = []
          · exfalso
            refine hi ⟨?_, hm⟩
            rw [hm] at q14
            rw [hw] at f5
            simp at q14 f5
            exact List.eq_nil_of_length_eq_zero (by omega)
          · have : 0 < x0.wait.length := Nat.pos_of_ne_zero fun e => hw (List.eq_nil_of_length_eq_zero e)
            rw [hm, List.length_nil]
            omega
        · omega
      · omega
    · rw [← hlen]
      split
      · rename_i e
        rw [hR] at e
        omega
      · omega
/-- So many rounds are enough. -/
theorem Head.enough (h : Head B L x z got 400) : False := by
  have := h.less (by omega)
  omega
/-- The beginning. -/
theorem Head.begin (start window : Int) (L : List ByteArray) (hL : L.length ≤ 100) {y : Sf.S} (hy : y = { Sf.opn (Sf.new start 256 256) ((Rf.new start window).MR % 16777216) with wait := L }) : Head (start % 16777216) L y (Rf.new start window) [] 0 := by
  have hw : 1 ≤ max 1 (min window 64) ∧ max 1 (min window 64) ≤ 64 := by omega
  have ho : Sf.opn (Sf.new start 256 256) ((Rf.new start window).MR % 16777216) = { Sf.new start 256 256 with ms := (Rf.new start window).MR } := by
    refine opn_MR rfl ?_ ?_ ?_
    · show start % 16777216 ≤ start % 16777216 + max 1 (min window 64); omega
    · show start % 16777216 + max 1 (min window 64) - start % 16777216 ≤ 64; omega
    · show start % 16777216 ≤ start % 16777216 + max 1 (min window 64); omega
  rw [ho] at hy
  subst hy
  have hok := Sf.Ok.new start 256 256 (start % 16777216 + 3000) (by omega) (by omega)
  refine ⟨⟨hL, { hok with sms := by show start % 16777216 ≤ start % 16777216 + max 1 (min window 64); omega, msa := by show start % 16777216 + max 1 (min window 64) - start % 16777216 ≤ _; omega, wlen := by show L.length ≤ (max 1 (min (256 : Int) 256)).toNat; rw [show (max 1 (min (256 : Int) 256)).toNat = 256 by decide]; omega }, Rf.Ok.new start window _ (by omega) (by omega), fun n n1 n2 => ?_, ?_, ?_, Int.le_refl _, Int.le_refl _, Int.le_refl _, fun p hp => (by cases hp), ?_, fun n hn => (by cases hn)⟩, rfl, rfl, ⟨rfl, fun k hk => ?_⟩, ?_, rfl, ?_, fun hc => by omega, fun hc => by omega⟩
  · have n1 : start % 16777216 ≤ n := n1
    have n2 : n < start % 16777216 := n2
    omega
  · show L = L.drop (start % 16777216 - start % 16777216).toNat
    rw [show (start % 16777216 - start % 16777216).toNat = 0 by omega]
    rfl
  · show start % 16777216 ≤ start % 16777216 + (L.length : Int)
    omega
  · show [] = L.take (start % 16777216 - start % 16777216).toNat
    rw [show (start % 16777216 - start % 16777216).toNat = 0 by omega]
    rfl
  · obtain ⟨k1, k2, _⟩ := (Rf.mem_missing _ k).1 hk
    have k1 : start % 16777216 ≤ k := k1
    have k2 : k < start % 16777216 := k2
    omega
  · show start % 16777216 < start % 16777216 + max 1 (min window 64)
    omega
  · show start % 16777216 ≤ start % 16777216 + ((0 : Nat) : Int)
    omega
end T2
end Go.Proofs.Ytngljhpplmbglaa

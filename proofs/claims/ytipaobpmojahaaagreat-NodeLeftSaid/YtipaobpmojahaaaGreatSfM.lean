/-
  The document's sender, with numbers that go on for ever, and what it is to the program's. Plain: no program is named but the sender's plain form · polliwogref11.Send: what it is in memory.
-/
import Derived.Test.YtipaobpmojahaaaGreatSnd
import Derived.Test.YtipaobpmojahaaaGreatGapS
import Derived.Test.YtipaobpmojahaaaGreatRow2
import Derived.Test.YtipaobpmojahaaaGreatEvD
import Derived.Test.YtipaobpmojahaaaGreatOp6
import Derived.Deep.DeepCutAuto
import Derived.Deep.QuietTactic
import Derived.BigQuiet
import Derived.StillTailTactics
set_option maxHeartbeats 4000000
namespace Go.Proofs.YtipaobpmojahaaaGreat

namespace Sf
structure S where
 s : Int
 a : Int
 ms : Int
 ps : Int
 pa : Int
 units : Int
 polls : Int
 most : Nat
 wait : List ByteArray
 kept : List ByteArray
 last : List Int
 again : List Int

def new (start queue polls : Int) : S :=
 { s := start % 16777216, a := start % 16777216, ms := start % 16777216, ps := start % 16777216, pa := start % 16777216, units := 0, polls := max 1 (min polls 256), most := (max 1 (min queue 256)).toNat, wait := [], kept := [], last := [], again := [] }
def at_ (x : S) (n : Int) : Int := x.a + (n - x.a) % 16777216
def opn (x : S) (ms : Int) : S := if (ms - x.a) % 16777216 <= 8388608 ∧ x.ms <= at_ x ms then { x with ms := at_ x ms } else x
def put (x : S) (v : ByteArray) : S := if x.wait.length < x.most then { x with wait := x.wait ++ [v] } else x
def repeat1 (x : S) (n : Int) (r : List Int) : S := { x with again := r, last := x.last.set (n - x.a).toNat x.ps, units := x.units + 1 }
def fresh1 (x : S) (v : ByteArray) (r : List ByteArray) : S := { x with wait := r, kept := x.kept ++ [v], last := x.last ++ [x.ps], s := x.s + 1, units := x.units + 1 }
def next (x : S) : S × Int × ByteArray × Bool × Bool :=
 match x.again with
 |n :: r => (repeat1 x n r, n, x.kept.getD (n - x.a).toNat default, false, true)
 |[] => match x.wait with
  |[] => (x, 0, "".toUTF8, false, false)
  |v :: r => if x.ms <= x.s then (x, 0, "".toUTF8, false, false) else (fresh1 x v r, x.s, v, true, true)
def poll (x : S) : S := { x with ps := x.ps + 1, units := 0 }
def ack (x : S) (r : Int) : S := { x with kept := x.kept.drop (r - x.a).toNat, last := x.last.drop (r - x.a).toNat, a := r, again := x.again.filter fun n => decide (r <= n) }
def told (_x : S) (r : Int) (l : List Int) : List Int := Sp.nums (Gp.prs (Gp.ats r l))
def may (x : S) (p : Option Int) (n : Int) : Bool := match p with
 |none => true
 |some p => decide (x.last.getD (n - x.a).toNat 0 < p) && decide (p - x.last.getD (n - x.a).toNat 0 < 8388608)
def more (x : S) (p : Option Int) (l : List Int) : List Int := (l.map fun i => x.a + i).filter fun n => may x p n && !decide (n ∈ x.again)
def nums (x : S) : List Int := (List.range (x.s - x.a).toNat).map fun i : Nat => x.a + (i : Int)
def merge (x : S) (m : List Int) : List Int := (nums x).filter fun n => decide (n ∈ x.again) || decide (n ∈ m)
def rep (x : S) (p : Option Int) (l : List Int) : S × Int := ({ x with again := merge x (more x p l) }, ((more x p l).length : Int))
def pollAt (x : S) (ps : Int) : Int := x.pa + (ps - x.pa) % 16777216
def toldOk (x : S) (r : Int) (l : List Int) : Bool := decide (at_ x r <= x.s) && Gp.okSet (at_ x r) x.s l
def stat (x : S) (r mr ps : Int) (l : List Int) : S × Int × Int :=
 if x.ps < pollAt x ps then (x, 0, 12) else if toldOk x r l = false then (x, 0, 13) else
  let y := rep (opn { ack x (at_ x r) with pa := pollAt x ps } mr) (some (pollAt x ps)) (told x (at_ x r) l)
  (y.1, y.2, 0)
def ustat (x : S) (r mr : Int) (l : List Int) : S × Int × Int :=
 if toldOk x r l = false then (x, 0, 14) else
  let y := rep (opn (ack x (at_ x r)) mr) none (told x (at_ x r) l)
  (y.1, y.2, 0)

def pm : Int -> List ByteArray -> List Int -> List (Int × (ByteArray × Int))
 |a, v :: ks, p :: ls => (a % 16777216, (v, p % 16777216)) :: pm (a + 1) ks ls
 |_, _, _ => []
def pa (l : List Int) : List Int := l.map fun n => n % 16777216
def prog (x : S) : Sd.S := ⟨x.s % 16777216, x.a % 16777216, x.ms % 16777216, x.ps % 16777216, x.pa % 16777216, x.units, x.polls, x.most, x.wait, pm x.a x.kept x.last, pa x.again⟩

structure Ok (x : S) (lo hi : Int) : Prop where
 lo0 : 0 <= lo ∧ lo < 16777216
 hl : hi - lo <= 4000
 la : lo <= x.a
 shi : x.s <= hi
 klen : x.a + (x.kept.length : Int) = x.s
 llen : x.last.length = x.kept.length
 sms : x.s <= x.ms
 msa : x.ms - x.a <= 8388608
 lpa : lo <= x.pa
 pas : x.pa <= x.ps
 phi : x.ps <= hi
 lasts : ∀ v ∈ x.last, lo <= v ∧ v <= x.ps
 sorted : x.again.Pairwise (· < ·)
 ags : ∀ n ∈ x.again, x.a <= n ∧ n < x.s
 units : 0 <= x.units ∧ x.units <= hi - lo
 polls : 1 <= x.polls ∧ x.polls <= 256
 most : 1 <= x.most ∧ x.most <= 256
 wlen : x.wait.length <= x.most

theorem Ok.new (start queue polls hi : Int) (h1 : start % 16777216 <= hi) (h2 : hi - start % 16777216 <= 4000) : Ok (new start queue polls) (start % 16777216) hi where
 lo0 := by omega
 hl := h2
 la := Int.le_refl _
 shi := h1
 klen := by show start % 16777216 + (([] : List ByteArray).length : Int) = start % 16777216; simp
 llen := rfl
 sms := Int.le_refl _
 msa := by show start % 16777216 - start % 16777216 <= _; omega
 lpa := Int.le_refl _
 pas := Int.le_refl _
 phi := h1
 lasts := fun v hv => by cases hv
 sorted := List.Pairwise.nil
 ags := fun v hv => by cases hv
 units := by show (0 : Int) <= 0 ∧ (0 : Int) <= _; omega
 polls := by show 1 <= max 1 (min polls 256) ∧ max 1 (min polls 256) <= 256; omega
 most := by show 1 <= (max 1 (min queue 256)).toNat ∧ (max 1 (min queue 256)).toNat <= 256; omega
 wlen := by show ([] : List ByteArray).length <= _; simp
theorem Ok.mono {x : S} {lo hi hi' : Int} (h : Ok x lo hi) (h1 : hi <= hi') (h2 : hi' - lo <= 4000) : Ok x lo hi' :=
 { h with hl := h2, shi := Int.le_trans h.shi h1, phi := Int.le_trans h.phi h1, units := ⟨h.units.1, by have := h.units.2; omega⟩ }
theorem prog_new (start queue polls : Int) : Sd.new start queue polls = prog (new start queue polls) := by
 unfold Sd.new prog new pm pa
 simp

/-! What is kept, as a list by numbers. -/
theorem pm_len : ∀ (a : Int) (ks : List ByteArray) (ls : List Int), ls.length = ks.length -> (pm a ks ls).length = ks.length
 |_, [], [], _ => rfl
 |a, v :: ks, p :: ls, h => by
  have := pm_len (a + 1) ks ls (by simpa using h)
  simp [pm, this]
 |_, [], _ :: _, h => by simp at h
 |_, _ :: _, [], h => by simp at h
theorem pm_keys : ∀ (a : Int) (ks : List ByteArray) (ls : List Int), ∀ p ∈ pm a ks ls, ∃ j : Nat, j < ks.length ∧ p.1 = (a + (j : Int)) % 16777216
 |a, v :: ks, q :: ls, p, h => by
  unfold pm at h
  rcases List.mem_cons.1 h with rfl | h
  ·exact ⟨0, by simp, by simp⟩
  ·obtain ⟨j, h1, h2⟩ := pm_keys (a + 1) ks ls p h
   exact ⟨j + 1, by simpa using h1, by rw [h2]; congr 1; omega⟩
 |_, [], [], p, h => by simp [pm] at h
 |_, [], _ :: _, p, h => by simp [pm] at h
 |_, _ :: _, [], p, h => by simp [pm] at h
theorem pm_snoc : ∀ (a : Int) (ks : List ByteArray) (ls : List Int) (v : ByteArray) (q : Int), ls.length = ks.length -> pm a (ks ++ [v]) (ls ++ [q]) = pm a ks ls ++ [((a + (ks.length : Int)) % 16777216, (v, q % 16777216))]
 |a, [], [], v, q, _ => by simp [pm]
 |a, w :: ks, p :: ls, v, q, h => by
  have := pm_snoc (a + 1) ks ls v q (by simpa using h)
  simp only [List.cons_append, pm, this, List.length_cons]
  rw [show a + 1 + (ks.length : Int) = a + ((ks.length + 1 : Nat) : Int) by omega]
 |_, [], _ :: _, _, _, h => by simp at h
 |_, _ :: _, [], _, _, h => by simp at h
theorem pm_out {a : Int} {ks : List ByteArray} {ls : List Int} {n : Int} (hk : ks.length <= 8000) (h : n < a ∨ a + (ks.length : Int) <= n) (h1 : a - 8000000 <= n) (h2 : n <= a + 8000000) : n % 16777216 ∉ (pm a ks ls).map (·.1) := fun hm => by
 obtain ⟨p, hp, e⟩ := List.mem_map.1 hm
 obtain ⟨j, h3, h4⟩ := pm_keys a ks ls p hp
 rw [h4] at e
 omega
theorem pm_get : ∀ (a : Int) (ks : List ByteArray) (ls : List Int) (j : Nat), ls.length = ks.length -> ks.length <= 8000 -> j < ks.length -> mget (pm a ks ls) ((a + (j : Int)) % 16777216) = some (ks.getD j default, ls.getD j 0 % 16777216)
 |a, v :: ks, p :: ls, 0, h, hk, _ => by
  unfold pm
  rw [mget_cons, if_pos (by simp)]
  rfl
 |a, v :: ks, p :: ls, j + 1, h, hk, hj => by
  have hk' : ks.length + 1 <= 8000 := by simpa using hk
  have hj' : j + 1 < ks.length + 1 := by simpa using hj
  have ih := pm_get (a + 1) ks ls j (by simpa using h) (by omega) (by omega)
  unfold pm
  rw [mget_cons, if_neg (by simp only; omega), show a + ((j + 1 : Nat) : Int) = a + 1 + (j : Int) by omega, ih]
  simp
 |_, [], [], j, _, _, hj => by simp at hj
 |_, [], _ :: _, _, h, _, _ => by simp at h
 |_, _ :: _, [], _, h, _, _ => by simp at h
theorem pm_set : ∀ (a : Int) (ks : List ByteArray) (ls : List Int) (j : Nat) (q : Int), ls.length = ks.length -> ks.length <= 8000 -> j < ks.length -> mset (pm a ks ls) ((a + (j : Int)) % 16777216) (ks.getD j default, q % 16777216) = pm a ks (ls.set j q) := by
 intro a ks ls j q h hk hj
 have hin : ((a + (j : Int)) % 16777216) ∈ (pm a ks ls).map (·.1) := Decidable.byContradiction fun hc => by
  have h1 := mget_none.2 hc
  rw [pm_get a ks ls j h hk hj] at h1
  cases h1
 unfold mset
 rw [if_pos hin]
 clear hin
 induction j generalizing a ks ls with
 |zero =>
  match ks, ls, h, hj with
  |v :: ks, p :: ls, h, _ =>
   simp only [pm, List.map_cons, List.set_cons_zero]
   rw [if_pos (by simp)]
   refine congr (congrArg _ (by simp)) ?_
   have : ∀ p ∈ pm (a + 1) ks ls, (if p.1 = (a + ((0 : Nat) : Int)) % 16777216 then ((a + ((0 : Nat) : Int)) % 16777216, ((v :: ks).getD 0 default, q % 16777216)) else p) = id p := fun p hp => by
    obtain ⟨j, h3, h4⟩ := pm_keys (a + 1) ks ls p hp
    have hk' : ks.length + 1 <= 8000 := by simpa using hk
    rw [if_neg (by rw [h4]; omega)]
    rfl
   rw [List.map_congr_left this, List.map_id]
 |succ j ih =>
  match ks, ls, h, hj with
  |v :: ks, p :: ls, h, hj =>
   have hk' : ks.length + 1 <= 8000 := by simpa using hk
   have hj' : j + 1 < ks.length + 1 := by simpa using hj
   have i := ih (a + 1) ks ls (by simpa using h) (by omega) (by omega)
   simp only [pm, List.map_cons, List.set_cons_succ]
   rw [if_neg (by omega), <- i, show a + 1 + (j : Int) = a + ((j + 1 : Nat) : Int) by omega]
   simp
theorem pm_del (a : Int) (v : ByteArray) (ks : List ByteArray) (q : Int) (ls : List Int) (hk : ks.length <= 8000) : mdel (pm a (v :: ks) (q :: ls)) (a % 16777216) = pm (a + 1) ks ls := by
 have e : pm a (v :: ks) (q :: ls) = (a % 16777216, (v, q % 16777216)) :: pm (a + 1) ks ls := rfl
 rw [e]
 unfold mdel
 rw [List.filter_cons, if_neg (by simp)]
 refine List.filter_eq_self.2 fun p hp => ?_
 obtain ⟨j, h3, h4⟩ := pm_keys (a + 1) ks ls p hp
 rw [h4]
 exact decide_eq_true (by omega)

section
variable {x : S} {lo hi : Int}
theorem Ok.kl (h : Ok x lo hi) : x.kept.length <= 4000 := by have := h.klen; have := h.la; have := h.shi; have := h.hl; omega
theorem Ok.s_out (h : Ok x lo hi) : x.s % 16777216 ∉ (prog x).m.map (·.1) :=
 pm_out (by have := h.kl; omega) (Or.inr (by have := h.klen; omega)) (by have := h.klen; have := h.kl; omega) (by have := h.klen; have := h.kl; omega)
theorem Ok.look (h : Ok x lo hi) {n : Int} (h1 : x.a <= n) (h2 : n < x.s) : mget (prog x).m (n % 16777216) = some (x.kept.getD (n - x.a).toNat default, x.last.getD (n - x.a).toNat 0 % 16777216) := by
 have hk := h.klen
 have := pm_get x.a x.kept x.last (n - x.a).toNat h.llen (by have := h.kl; omega) (by omega)
 rw [show x.a + (((n - x.a).toNat : Nat) : Int) = n by omega] at this
 exact this
theorem Ok.put (h : Ok x lo hi) (v : ByteArray) : Ok (put x v) lo hi := by
 unfold Sf.put
 by_cases hc : x.wait.length < x.most
 ·rw [if_pos hc]
  exact { h with wlen := by show (x.wait ++ [v]).length <= x.most; simp; omega }
 ·rw [if_neg hc]
  exact h
theorem prog_put (x : S) (v : ByteArray) : Sd.put (prog x) v = prog (put x v) := by
 unfold Sd.put Sf.put
 by_cases hc : x.wait.length < x.most
 ·rw [if_pos hc, if_pos (by exact hc)]
  rfl
 ·rw [if_neg hc, if_neg (by exact hc)]
theorem Ok.opn (h : Ok x lo hi) (ms : Int) : Ok (opn x ms) lo hi := by
 unfold Sf.opn
 by_cases hc : (ms - x.a) % 16777216 <= 8388608 ∧ x.ms <= at_ x ms
 ·rw [if_pos hc]
  exact { h with sms := by have := h.sms; show x.s <= at_ x ms; omega, msa := by show at_ x ms - x.a <= _; unfold at_; omega }
 ·rw [if_neg hc]
  exact h
theorem Ok.prog_opn (h : Ok x lo hi) (ms : Int) : Sd.opn (prog x) (ms % 16777216) = prog (Sf.opn x ms) := by
 have h1 := h.sms
 have h2 := h.msa
 have h3 := h.klen
 have e1 : (ms % 16777216 - (prog x).a) % 16777216 = (ms - x.a) % 16777216 := by show (ms % 16777216 - x.a % 16777216) % 16777216 = _; omega
 have e2 : ((prog x).ms - (prog x).a) % 16777216 = x.ms - x.a := by show (x.ms % 16777216 - x.a % 16777216) % 16777216 = _; omega
 unfold Sd.opn Sf.opn
 rw [e1, e2]
 by_cases hc : (ms - x.a) % 16777216 <= 8388608 ∧ x.ms <= at_ x ms
 ·rw [if_pos hc, if_pos (by unfold at_ at hc; omega)]
  unfold prog at_
  simp only [Sd.S.mk.injEq, and_true, true_and]
  omega
 ·rw [if_neg hc, if_neg (by unfold at_ at hc; omega)]
theorem Ok.poll (h : Ok x lo hi) (hh : hi + 1 - lo <= 4000) : Ok (poll x) lo (hi + 1) :=
 { h.mono (show hi <= hi + 1 by omega) hh with
  pas := by have := h.pas; show x.pa <= x.ps + 1; omega
  phi := by have := h.phi; show x.ps + 1 <= hi + 1; omega
  lasts := fun v hv => by have := h.lasts v hv; show lo <= v ∧ v <= x.ps + 1; omega
  units := by have := h.units; show (0 : Int) <= 0 ∧ (0 : Int) <= hi + 1 - lo; omega }
theorem prog_poll (x : S) : ({ prog x with ps := ((prog x).ps + 1) % 16777216, units := 0 } : Sd.S) = prog (poll x) := by
 unfold prog poll
 simp only [Sd.S.mk.injEq, and_true, true_and]
 omega
theorem Ok.fresh1 (h : Ok x lo hi) (hh : hi + 1 - lo <= 4000) {v : ByteArray} {r : List ByteArray} (hw : x.wait = v :: r) (hl : x.s < x.ms) : Ok (fresh1 x v r) lo (hi + 1) :=
 { h.mono (show hi <= hi + 1 by omega) hh with
  shi := by have := h.shi; show x.s + 1 <= hi + 1; omega
  klen := by have := h.klen; show x.a + ((x.kept ++ [v]).length : Int) = x.s + 1; simp; omega
  llen := by have := h.llen; show (x.last ++ [x.ps]).length = (x.kept ++ [v]).length; simp; exact this
  sms := by show x.s + 1 <= x.ms; omega
  lasts := fun q hq => by
   rcases List.mem_append.1 hq with hq | hq
   ·exact h.lasts q hq
   ·rw [List.mem_singleton.1 hq]
    have := h.lpa
    have := h.pas
    show lo <= x.ps ∧ x.ps <= x.ps
    omega
  ags := fun n hn => by have := h.ags n hn; show x.a <= n ∧ n < x.s + 1; omega
  units := by have := h.units; show 0 <= x.units + 1 ∧ x.units + 1 <= hi + 1 - lo; omega
  wlen := by have := h.wlen; rw [hw] at this; show r.length <= x.most; simp at this; omega }
theorem Ok.prog_fresh1 (h : Ok x lo hi) (v : ByteArray) (r : List ByteArray) : Sd.new1 (prog x) v r = prog (Sf.fresh1 x v r) := by
 have hs := h.s_out
 have hk := h.klen
 have e : mset (prog x).m (x.s % 16777216) (v, x.ps % 16777216) = pm x.a (x.kept ++ [v]) (x.last ++ [x.ps]) := by
  rw [pm_snoc _ _ _ _ _ h.llen, hk]
  unfold mset
  rw [if_neg hs]
  rfl
 unfold Sd.new1 Sd.out Sf.fresh1 prog
 simp only [Sd.S.mk.injEq, and_true, true_and]
 exact ⟨by omega, e⟩
theorem Ok.repeat1 (h : Ok x lo hi) (hh : hi + 1 - lo <= 4000) {n : Int} {r : List Int} (ha : x.again = n :: r) : Ok (repeat1 x n r) lo (hi + 1) := by
 have hs := h.sorted
 have hg := h.ags
 rw [ha] at hs hg
 exact { h.mono (show hi <= hi + 1 by omega) hh with
  llen := by have := h.llen; show (x.last.set _ _).length = x.kept.length; simp; exact this
  lasts := fun q hq => by
   rcases List.mem_or_eq_of_mem_set hq with hq | rfl
   ·exact h.lasts q hq
   ·have := h.lpa
    have := h.pas
    show lo <= x.ps ∧ x.ps <= x.ps
    omega
  sorted := (List.pairwise_cons.1 hs).2
  ags := fun m hm => hg m (by simp [show m ∈ r from hm])
  units := by have := h.units; show 0 <= x.units + 1 ∧ x.units + 1 <= hi + 1 - lo; omega }
theorem Ok.prog_repeat1 (h : Ok x lo hi) {n : Int} {r : List Int} (ha : x.again = n :: r) :
  Sd.out { prog x with again := pa r } (n % 16777216) (x.kept.getD (n - x.a).toNat default) = prog (Sf.repeat1 x n r) := by
 have hg := h.ags n (by rw [ha]; simp)
 have hk := h.klen
 have := pm_set x.a x.kept x.last (n - x.a).toNat x.ps h.llen (by have := h.kl; omega) (by omega)
 rw [show x.a + (((n - x.a).toNat : Nat) : Int) = n by omega] at this
 unfold Sd.out Sf.repeat1 prog
 simp only [Sd.S.mk.injEq, and_true, true_and]
 exact this
end
end Sf

namespace Gp
theorem ats_mod {b b' : Int} (l : List Int) (hb : b % 16777216 = b' % 16777216) : ats b l = ats b' l := by
 unfold ats
 refine List.map_congr_left fun x _ => ?_
 omega
theorem okSet_mod {b b' t t' : Int} (l : List Int) (hb : b % 16777216 = b' % 16777216) (ht : t % 16777216 = t' % 16777216) : okSet b t l = okSet b' t' l := by
 unfold okSet
 rw [ats_mod l hb, show (t - b) % 16777216 = (t' - b') % 16777216 by omega]
theorem up_rise (E : Int) : ∀ (L : List Int) (last : Int), up E last L = true -> Sp.Rising (Sp.nums (prs L)) ∧ ∀ v ∈ Sp.nums (prs L), last < v ∧ v < E
 |[], _, _ => ⟨by simp [prs, Sp.nums, Sp.Rising], by simp [prs, Sp.nums]⟩
 |[_], _, _ => ⟨by simp [prs, Sp.nums, Sp.Rising], by simp [prs, Sp.nums]⟩
 |a :: b :: r, last, h => by
  simp only [up, Bool.and_eq_true, decide_eq_true_eq] at h
  obtain ⟨⟨h1, h2⟩, ⟨h3, h4⟩, h5⟩ := h
  obtain ⟨i1, i2⟩ := up_rise E r b h5
  have e : Sp.nums (prs (a :: b :: r)) = Sp.run (a, b) ++ Sp.nums (prs r) := rfl
  rw [e]
  refine ⟨List.pairwise_append.2 ⟨Sp.run_rising _, i1, fun x hx y hy => ?_⟩, fun v hv => ?_⟩
  ·have := (Sp.mem_run _ _).1 hx
   have := i2 y hy
   simp only at *
   omega
  ·rcases List.mem_append.1 hv with hv | hv
   ·have := (Sp.mem_run _ _).1 hv
    simp only at *
    omega
   ·have := i2 v hv
    omega
end Gp

namespace Sf
section
variable {x : S} {lo hi : Int}

theorem Ok.at_bd (x : S) (n : Int) : x.a <= at_ x n ∧ at_ x n < x.a + 16777216 ∧ at_ x n % 16777216 = n % 16777216 := by
 unfold at_
 refine ⟨?_, ?_, ?_⟩ <;> omega
theorem Ok.within (h : Ok x lo hi) (r : Int) : decide ((r - x.a % 16777216) % 16777216 <= (x.s % 16777216 - x.a % 16777216) % 16777216) = decide (at_ x r <= x.s) := by
 have := h.kl
 have := h.klen
 unfold at_
 congr 1
 apply propext
 omega
theorem Ok.withinP (h : Ok x lo hi) (ps : Int) : decide ((ps - x.pa % 16777216) % 16777216 <= (x.ps % 16777216 - x.pa % 16777216) % 16777216) = decide (pollAt x ps <= x.ps) := by
 have := h.lpa
 have := h.pas
 have := h.phi
 have := h.hl
 unfold pollAt
 congr 1
 apply propext
 omega
theorem okSet_at (x : S) (r : Int) (l : List Int) : Gp.okSet r (x.s % 16777216) l = Gp.okSet (at_ x r) x.s l :=
 Gp.okSet_mod l (Ok.at_bd x r).2.2.symm (by omega)
theorem ats_at (x : S) (r : Int) (l : List Int) : Gp.ats r l = Gp.ats (at_ x r) l := Gp.ats_mod l (Ok.at_bd x r).2.2.symm

/-! acknowledge -/
theorem pm_drop_del (a : Int) (ks : List ByteArray) (ls : List Int) (j : Nat) (hl : ls.length = ks.length) (hk : ks.length <= 8000) (hj : j < ks.length) :
  mdel (pm (a + (j : Int)) (ks.drop j) (ls.drop j)) ((a + (j : Int)) % 16777216) = pm (a + ((j + 1 : Nat) : Int)) (ks.drop (j + 1)) (ls.drop (j + 1)) := by
 rw [List.drop_eq_getElem_cons hj, List.drop_eq_getElem_cons (show j < ls.length by omega), pm_del _ _ _ _ _ (by rw [List.length_drop]; omega), show a + (j : Int) + 1 = a + ((j + 1 : Nat) : Int) by omega]
def gone (x : S) (j : Nat) : List (Int × (ByteArray × Int)) := pm (x.a + (j : Int)) (x.kept.drop j) (x.last.drop j)
theorem gone_zero (x : S) : gone x 0 = (prog x).m := by
 unfold gone
 simp [prog]
theorem Ok.gone_succ (h : Ok x lo hi) (j : Nat) (hj : j < x.kept.length) : mdel (gone x j) ((x.a + (j : Int)) % 16777216) = gone x (j + 1) :=
 pm_drop_del x.a x.kept x.last j h.llen (by have := h.kl; omega) hj
theorem Ok.gone_in (h : Ok x lo hi) (j : Nat) (hj : j <= x.kept.length) {n : Int} (h1 : x.a <= n) (h2 : n < x.s) : (mget (gone x j) (n % 16777216)).isSome = decide (x.a + (j : Int) <= n) := by
 have hk := h.klen
 have hl := h.kl
 have ll := h.llen
 by_cases hc : x.a + (j : Int) <= n
 ·have := pm_get (x.a + (j : Int)) (x.kept.drop j) (x.last.drop j) (n - x.a - j).toNat (by simp [ll]) (by rw [List.length_drop]; omega) (by rw [List.length_drop]; omega)
  rw [show x.a + (j : Int) + (((n - x.a - j).toNat : Nat) : Int) = n by omega] at this
  unfold gone
  rw [this, decide_eq_true hc]
  rfl
 ·have : mget (gone x j) (n % 16777216) = none := mget_none.2 (pm_out (by rw [List.length_drop]; omega) (Or.inl (by omega)) (by omega) (by omega))
  rw [this, decide_eq_false hc]
  rfl
theorem Ok.ack (h : Ok x lo hi) {r : Int} (h1 : x.a <= r) (h2 : r <= x.s) : Ok (ack x r) lo hi := by
 have hk := h.klen
 exact { h with
  la := by have := h.la; show lo <= r; omega
  klen := by show r + ((x.kept.drop (r - x.a).toNat).length : Int) = x.s; rw [List.length_drop]; omega
  llen := by show (x.last.drop _).length = (x.kept.drop _).length; simp [h.llen]
  msa := by have := h.msa; show x.ms - r <= _; omega
  lasts := fun v hv => h.lasts v (List.mem_of_mem_drop hv)
  sorted := h.sorted.filter _
  ags := fun n hn => by
   have h3 := List.mem_filter.1 hn
   have h4 := h.ags n h3.1
   have h5 : r <= n := by simpa using h3.2
   exact ⟨h5, h4.2⟩ }
theorem Ok.prog_ack (h : Ok x lo hi) {r : Int} (h1 : x.a <= r) (h2 : r <= x.s) :
  ({ prog x with a := r % 16777216, m := gone x (r - x.a).toNat, again := (pa x.again).filter fun n => (mget (gone x (r - x.a).toNat) n).isSome } : Sd.S) = prog (Sf.ack x r) := by
 have hk := h.klen
 unfold Sf.ack prog
 simp only [Sd.S.mk.injEq, true_and]
 refine ⟨?_, ?_⟩
 ·unfold gone
  rw [show x.a + (((r - x.a).toNat : Nat) : Int) = r by omega]
 ·unfold pa
  rw [List.filter_map]
  congr 1
  refine List.filter_congr fun n hn => ?_
  have h3 := h.ags n hn
  simp only [Function.comp]
  rw [h.gone_in _ (by omega) h3.1 h3.2, show x.a + (((r - x.a).toNat : Nat) : Int) = r by omega]
theorem Ok.paset (h : Ok x lo hi) {p : Int} (h1 : x.pa <= p) (h2 : p <= x.ps) : Ok { x with pa := p } lo hi :=
 { h with lpa := by have := h.lpa; show lo <= p; omega, pas := h2 }

/-! what goes again -/
theorem more_succ (x : S) (p : Option Int) (l : List Int) (j : Nat) (hj : j < l.length) : more x p (l.take (j + 1)) = if (may x p (x.a + l.getD j 0) && !decide (x.a + l.getD j 0 ∈ x.again)) = true then more x p (l.take j) ++ [x.a + l.getD j 0] else more x p (l.take j) := by
 unfold more
 rw [List.take_succ_eq_append_getElem hj, List.map_append, List.filter_append]
 have e : l.getD j 0 = l[j] := by simp [List.getD, List.getElem?_eq_getElem hj]
 rw [e]
 by_cases hh : (may x p (x.a + l[j]) && !decide (x.a + l[j] ∈ x.again)) = true
 ·rw [if_pos hh]
  simp only [List.map_cons, List.map_nil, List.filter_cons, hh, if_true, List.filter_nil]
 ·rw [if_neg hh]
  simp only [List.map_cons, List.map_nil, List.filter_cons, hh, List.filter_nil]
  simp
theorem more_len (x : S) (p : Option Int) (l : List Int) : (more x p l).length <= l.length := by
 unfold more
 refine Nat.le_trans (List.length_filter_le _ _) ?_
 simp
theorem more_mem {x : S} {p : Option Int} {l : List Int} {n : Int} : n ∈ more x p l ↔ (n - x.a ∈ l ∧ may x p n = true ∧ n ∉ x.again) := by
 unfold more
 rw [List.mem_filter, List.mem_map]
 constructor
 ·rintro ⟨⟨i, hi, rfl⟩, h2⟩
  rw [show x.a + i - x.a = i by omega]
  rw [Bool.and_eq_true] at h2
  exact ⟨hi, h2.1, by simpa using h2.2⟩
 ·rintro ⟨h1, h2, h3⟩
  exact ⟨⟨n - x.a, h1, by omega⟩, by simp [h2, h3]⟩
theorem more_rising {x : S} {p : Option Int} {l : List Int} (h : Sp.Rising l) : Sp.Rising (more x p l) := by
 unfold more Sp.Rising
 refine List.Pairwise.filter _ ?_
 rw [List.pairwise_map]
 exact h.imp (by intro a b hab; omega)
theorem nums_rising (x : S) : Sp.Rising (nums x) := by
 unfold nums Sp.Rising
 rw [List.pairwise_map]
 exact List.pairwise_lt_range.imp (by intro a b hab; omega)
theorem mem_nums {x : S} {n : Int} : n ∈ nums x ↔ x.a <= n ∧ n < x.s := by
 unfold nums
 rw [List.mem_map]
 constructor
 ·rintro ⟨i, hi, rfl⟩
  have := List.mem_range.1 hi
  omega
 ·rintro ⟨h1, h2⟩
  exact ⟨(n - x.a).toNat, List.mem_range.2 (by omega), by omega⟩
theorem merge_rising (x : S) (m : List Int) : Sp.Rising (merge x m) := (nums_rising x).filter _
theorem mem_merge {x : S} {m : List Int} {n : Int} (hm : ∀ n ∈ m, x.a <= n ∧ n < x.s) (ha : ∀ n ∈ x.again, x.a <= n ∧ n < x.s) : n ∈ merge x m ↔ n ∈ x.again ++ m := by
 unfold merge
 rw [List.mem_filter, mem_nums, List.mem_append]
 simp only [Bool.or_eq_true, decide_eq_true_eq]
 exact ⟨fun h => h.2, fun h => ⟨h.elim (ha n) (hm n), h⟩⟩
theorem mem_pa {l : List Int} {n : Int} (hl : ∀ m ∈ l, n - 8000000 <= m ∧ m <= n + 8000000) : n % 16777216 ∈ pa l ↔ n ∈ l := by
 unfold pa
 rw [List.mem_map]
 constructor
 ·rintro ⟨m, h1, h2⟩
  have := hl m h1
  obtain rfl : m = n := by omega
  exact h1
 ·exact fun h => ⟨n, h, rfl⟩
theorem Ok.contains (h : Ok x lo hi) {p : Option Int} {l : List Int} (hr : Sp.Rising l) (hb : ∀ i ∈ l, 0 <= i ∧ i < x.s - x.a) (j : Nat) (hj : j < l.length) :
  decide ((x.a + l.getD j 0) % 16777216 ∈ pa (x.again ++ more x p (l.take j))) = decide (x.a + l.getD j 0 ∈ x.again) := by
 have hk := h.klen
 have hl := h.kl
 have e : l.getD j 0 = l[j] := by simp [List.getD, List.getElem?_eq_getElem hj]
 have hj1 := hb l[j] (List.getElem_mem hj)
 have hin : ∀ m ∈ x.again ++ more x p (l.take j), x.a <= m ∧ m < x.s := fun m hm => by
  rcases List.mem_append.1 hm with hm | hm
  ·exact h.ags m hm
  ·have := hb _ (List.mem_of_mem_take (more_mem.1 hm).1)
   omega
 rw [e]
 congr 1
 apply propext
 rw [mem_pa fun m hm => by have := hin m hm; omega, List.mem_append]
 refine ⟨fun hh => hh.elim id fun hm => ?_, Or.inl⟩
 have h1 := (more_mem.1 hm).1
 rw [show x.a + l[j] - x.a = l[j] by omega] at h1
 obtain ⟨i, hi, he⟩ := List.mem_take_iff_getElem.1 h1
 have := (List.pairwise_iff_getElem.1 hr) i j (by omega) hj (by omega)
 omega
theorem Ok.ahead (h : Ok x lo hi) {p : Int} (h1 : lo <= p) (h2 : p <= hi) {n : Int} (h3 : x.a <= n) (h4 : n < x.s) :
  (decide (0 < (p % 16777216 - x.last.getD (n - x.a).toNat 0 % 16777216) % 16777216) && decide ((p % 16777216 - x.last.getD (n - x.a).toNat 0 % 16777216) % 16777216 < 8388608)) = may x (some p) n := by
 have hk := h.klen
 have ll := h.llen
 have hj : (n - x.a).toNat < x.last.length := by omega
 have e : x.last.getD (n - x.a).toNat 0 = x.last[(n - x.a).toNat] := by simp [List.getD, List.getElem?_eq_getElem hj]
 have hb := h.lasts _ (List.getElem_mem hj)
 have := h.phi
 have := h.hl
 unfold may
 simp only [e]
 generalize x.last[(n - x.a).toNat] = q at *
 by_cases c1 : q < p
 ·rw [decide_eq_true c1, decide_eq_true (show p - q < 8388608 by omega), decide_eq_true (show 0 < (p % 16777216 - q % 16777216) % 16777216 by omega), decide_eq_true (show (p % 16777216 - q % 16777216) % 16777216 < 8388608 by omega)]
 ·rw [decide_eq_false c1]
  by_cases c2 : (p % 16777216 - q % 16777216) % 16777216 < 8388608
  ·rw [decide_eq_false (show ¬ 0 < (p % 16777216 - q % 16777216) % 16777216 by omega)]
   rfl
  ·rw [decide_eq_false c2]
   simp
theorem Ok.sorted_is (h : Ok x lo hi) {p : Option Int} {l : List Int} (hr : Sp.Rising l) (hb : ∀ i ∈ l, 0 <= i ∧ i < x.s - x.a) {M : List Int} (hp : List.Perm M (pa (x.again ++ more x p l)))
  (hs : M.Pairwise fun u v => (u - x.a % 16777216) % 16777216 <= (v - x.a % 16777216) % 16777216) : M = pa (merge x (more x p l)) := by
 have hk := h.klen
 have hl := h.kl
 have hm : ∀ n ∈ more x p l, x.a <= n ∧ n < x.s := fun n hn => by
  have := hb _ (more_mem.1 hn).1
  omega
 have hin : ∀ m ∈ x.again ++ more x p l, x.a <= m ∧ m < x.s := fun m hm' => (List.mem_append.1 hm').elim (h.ags m) (hm m)
 have hnd : (x.again ++ more x p l).Nodup := by
  refine List.nodup_append.2 ⟨h.sorted.imp (by intro a b hab; omega), (more_rising hr).imp (by intro a b hab; omega), fun a ha b hb' e => ?_⟩
  subst e
  exact (more_mem.1 hb').2.2 ha
 have back : ∀ L : List Int, (∀ m ∈ L, x.a <= m ∧ m < x.s) -> (pa L).map (fun u => x.a + (u - x.a % 16777216) % 16777216) = L := fun L hL => by
  unfold pa
  rw [List.map_map]
  have : ∀ y ∈ L, ((fun u => x.a + (u - x.a % 16777216) % 16777216) ∘ fun n => n % 16777216) y = id y := fun y hy => by
   have := hL y hy
   simp only [Function.comp, id]
   omega
  rw [List.map_congr_left this, List.map_id]
 have hp2 := hp.map (fun u => x.a + (u - x.a % 16777216) % 16777216)
 rw [back _ hin] at hp2
 have hle : (M.map (fun u => x.a + (u - x.a % 16777216) % 16777216)).Pairwise (· <= ·) := by
  rw [List.pairwise_map]
  exact hs.imp (by intro a b hab; omega)
 have hnd2 := hp2.nodup_iff.2 hnd
 have hlt : Sp.Rising (M.map (fun u => x.a + (u - x.a % 16777216) % 16777216)) := by
  unfold Sp.Rising
  exact (hle.and hnd2).imp (by intro a b hab; have := hab.1; have := hab.2; omega)
 have e := Sp.Rising.uniq hlt (merge_rising x (more x p l)) fun n => by rw [mem_merge hm h.ags, hp2.mem_iff]
 rw [<- e]
 unfold pa
 rw [List.map_map]
 have : ∀ y ∈ M, ((fun n => n % 16777216) ∘ fun u => x.a + (u - x.a % 16777216) % 16777216) y = id y := fun y hy => by
  have h1 := hp.mem_iff.1 hy
  unfold pa at h1
  obtain ⟨z, _, rfl⟩ := List.mem_map.1 h1
  simp only [Function.comp, id]
  omega
 rw [List.map_congr_left this, List.map_id]
theorem Ok.rep (h : Ok x lo hi) (p : Option Int) (l : List Int) : Ok (rep x p l).1 lo hi :=
 { h with
  sorted := merge_rising x _
  ags := fun _n hn => mem_nums.1 (List.mem_filter.1 hn).1 }
theorem Ok.told (h : Ok x lo hi) {r : Int} {l : List Int} (hk : toldOk x r l = true) : Sp.Rising (told x (at_ x r) l) ∧ (∀ i ∈ told x (at_ x r) l, 0 <= i ∧ i < x.s - at_ x r) ∧ x.a <= at_ x r ∧ at_ x r <= x.s ∧ Gp.okSet (at_ x r) x.s l = true := by
 unfold toldOk at hk
 rw [Bool.and_eq_true, decide_eq_true_eq] at hk
 obtain ⟨h1, h2⟩ := hk
 have h3 := (Ok.at_bd x r).1
 have hkl := h.klen
 have hl := h.kl
 have h4 := h2
 unfold Gp.okSet at h4
 simp only [Bool.and_eq_true, decide_eq_true_eq] at h4
 obtain ⟨i1, i2⟩ := Gp.up_rise _ _ _ h4.2
 refine ⟨i1, fun i hi => ?_, h3, h1, h2⟩
 have := i2 i hi
 omega
end
end Sf

namespace Sf
section
variable {x : S} {lo hi : Int}
theorem Ok.next (h : Ok x lo hi) (hh : hi + 1 - lo <= 4000) : Ok (next x).1 lo (hi + 1) := by
 unfold Sf.next
 match ha : x.again with
 |n :: r => exact h.repeat1 hh ha
 |[] =>
  match hw : x.wait with
  |[] => exact h.mono (by omega) hh
  |v :: r =>
   by_cases hc : x.ms <= x.s
   ·simp only [if_pos hc]
    exact h.mono (by omega) hh
   ·simp only [if_neg hc]
    exact h.fresh1 hh hw (by omega)
theorem Ok.poll_bd (_h : Ok x lo hi) (ps : Int) : x.pa <= pollAt x ps := by unfold pollAt; omega
theorem Ok.stat (h : Ok x lo hi) (r mr ps : Int) (l : List Int) : Ok (stat x r mr ps l).1 lo hi := by
 unfold Sf.stat
 by_cases h1 : x.ps < pollAt x ps
 ·rw [if_pos h1]
  exact h
 ·rw [if_neg h1]
  cases h2 : toldOk x r l with
  |false => exact h
  |true =>
   obtain ⟨_, _, h3, h4, _⟩ := h.told h2
   exact (((h.ack h3 h4).paset (p := pollAt x ps) (h.poll_bd ps) (by show pollAt x ps <= x.ps; omega)).opn mr).rep _ _
theorem Ok.left (h : Ok x lo hi) (j : Nat) (hj : j < x.kept.length) : mget (prog x).m ((x.a % 16777216 + (j : Int)) % 16777216) = some (x.kept.getD j default, x.last.getD j 0 % 16777216) := by
 have hk := h.klen
 have := pm_get x.a x.kept x.last j h.llen (by have := h.kl; omega) hj
 rw [show (x.a % 16777216 + (j : Int)) % 16777216 = (x.a + (j : Int)) % 16777216 by omega]
 exact this
end
end Sf
open Go.RowKit

structure SfP where
 W : Option Addr
 cw : Nat
 K : Option Addr
 ck : Nat
 L : Option Addr
 cl : Nat
 G : Option Addr
 cg : Nat
def SfP.none : SfP := ⟨.none, 0, .none, 0, .none, 0, .none, 0⟩
def sfV (x : Sf.S) (P : SfP) : Value :=
 .agg #[.int .i64 x.s, .int .i64 x.a, .int .i64 x.ms, .int .i64 x.ps, .int .i64 x.pa, .int .i64 x.units, .int .i64 x.polls, .int .i64 (x.most : Int), .slice P.W x.wait.length P.cw, .slice P.K x.kept.length P.ck, .slice P.L x.last.length P.cl, .slice P.G x.again.length P.cg]
theorem sfnew_any (start queue polls : Int) (w : World) :
  Calls Tryz.prog 197 #[.int .i64 start, .int .i64 queue, .int .i64 polls] w fun e w' => e = .returned (sfV (Sf.new start queue polls) SfP.none) ∧ Fresh w w' := by
 have hv : sfV (Sf.new start queue polls) SfP.none = .agg #[.int .i64 (start % 16777216), .int .i64 (start % 16777216), .int .i64 (start % 16777216), .int .i64 (start % 16777216), .int .i64 (start % 16777216), .int .i64 0, .int .i64 (max 1 (min polls 256)), .int .i64 (max 1 (min queue 256)), .slice none 0 0, .slice none 0 0, .slice none 0 0, .slice none 0 0] := by
  unfold sfV Sf.new SfP.none
  simp only
  rw [show (((max 1 (min queue 256)).toNat : Nat) : Int) = max 1 (min queue 256) by omega]
  rfl
 rw [hv]
 clear hv
 obtain ⟨m, hm⟩ : ∃ m : Int, max 1 (min polls 256) = m := ⟨_, rfl⟩
 obtain ⟨q, hq⟩ : ∃ m : Int, max 1 (min queue 256) = m := ⟨_, rfl⟩
 rw [hm, hq]
 have hm1 : (if 256 < polls then 256 else polls) = min polls 256 := by split <;> omega
 have hq1 : (if 256 < queue then 256 else queue) = min queue 256 := by split <;> omega
 go_enter Tryz.func197, Tryz.ntmps197
 go_wp2_with fail
 refine (r01of_any start _).mono ?_
 rintro e w1 ⟨rfl, rfl⟩
 simp only
 go_wp2
 exact bodyPost_ret (v := _) (by simp [results, Tryz.results197, go_sem]) rfl ⟨rfl, (Touch.refl _ _).alloc _⟩
end Go.Proofs.YtipaobpmojahaaaGreat

/-
  Two ends that hear one another, plain: messages are put, clocks go on, all comes. No program is named.
-/
import Derived.Test.YtnenaemincfgpaaGreatPrE
namespace Go.Proofs.YtnenaemincfgpaaGreat
namespace Pr
open En (X)
theorem may7 : Ru.may 10 7 = true := by decide +kernel
theorem err7 (d : ByteArray) (hd : d.size <= 200) : Ev.err 7 d 0 = 0 := by
 unfold Ev.err
 have hm : Ev.most 7 = 200 := by decide
 rw [hm, if_neg (by decide), if_neg (by omega), if_neg (by omega)]
theorem put_ok {lo N : Int} {a b : X} {sa : Sf.S} {ra : Rf.S} {sb : Sf.S} {rb : Rf.S} (h : Calm lo N a b sa ra sb rb) (d : ByteArray) (hd : d.size <= 200) (hN : N + 1 <= 4000) :
  ∃ a' r e sa', En.request a 7 d 0 = (a', r, e) ∧ Calm lo (N + 1) a' b sa' ra sb rb ∧ ((e = 0 ∧ sa'.wait = sa.wait ++ [d]) ∨ (e ≠ 0 ∧ sa'.wait = sa.wait)) := by
 have hp := h.pi
 have hr : En.request a 7 d 0 = if (En.ask a 7 d 0).2.2 = 0 then ((En.credit (En.ask a 7 d 0).1 (En.ask a 7 d 0).2.1).1, (En.credit (En.ask a 7 d 0).1 (En.ask a 7 d 0).2.1).2, 0) else ((En.ask a 7 d 0).1, [], (En.ask a 7 d 0).2.2) := by
  unfold En.request
  rw [err7 d hd, if_pos rfl, hp.bx.con, may7, if_pos rfl]
 have hk : En.ask a 7 d 0 = if sa.wait.length < sa.most then ({ a with ep := some (Sf.put sa d, ra), tm := Pc.busy a.tm a.c.poll a.c.silent }, [], 0) else (a, [], 7) := by
  show En.putS a d = _
  unfold En.putS
  rw [hp.ex]
 have b1 := hp.bx
 have d1 := hp.d1.put d hN
 have d2 := hp.d2.mono (by omega : N <= N + 1) hN
 by_cases hw : sa.wait.length < sa.most
 ·rw [if_pos hw] at hk
  rw [hk] at hr
  rw [if_pos rfl] at hr
  have hput : (Sf.put sa d).wait = sa.wait ++ [d] := by unfold Sf.put; rw [if_pos hw]
  have ht : T a.c a.tm false false (Idl sa) := by have := hp.tx; rw [h.ap] at this; exact this
  refine ⟨_, _, _, Sf.put sa d, hr, ⟨⟨⟨b1.st, b1.con, b1.ctl, b1.un, b1.lf, b1.good⟩, hp.yb, rfl, hp.ey, d1, d2, hp.ys, hp.xa, ?_, hp.ty⟩, h.ast, h.ap, h.bp, h.ib⟩, .inl ⟨rfl, hput⟩⟩
  show T a.c (Pc.busy a.tm a.c.poll a.c.silent) false a.poll _
  rw [h.ap]
  exact ht.put b1.good
 ·rw [if_neg hw] at hk
  rw [hk] at hr
  rw [if_neg (show ¬ (7 : Int) = 0 by decide)] at hr
  exact ⟨_, _, _, sa, hr, ⟨⟨b1, hp.yb, hp.ex, hp.ey, hp.d1.mono (by omega) hN, d2, hp.ys, hp.xa, hp.tx, hp.ty⟩, h.ast, h.ap, h.bp, h.ib⟩, .inr ⟨show (7 : Int) ≠ 0 by decide, rfl⟩⟩

theorem over_one {b d : Int} (h : b < d) (hb : b = 1) : Tm.over [0, b, 0, d, 0] = [1] := by
 subst hb
 have hd : ¬ d = 1 := by omega
 simp [Tm.over, Tm.overTo, List.range_succ, hd]
theorem over_no {b d : Int} (h : b < d) (h0 : 0 < b) (hb : ¬ b = 1) : Tm.over [0, b, 0, d, 0] = [] := by
 have hd : ¬ d = 1 := by omega
 simp [Tm.over, Tm.overTo, List.range_succ, hd, hb]
theorem over_idle {e : Int} (he : e = 1) : Tm.over [0, 0, 0, 0, e] = [4] := by
 subst he
 simp [Tm.over, Tm.overTo, List.range_succ]
theorem over_idle_no {e : Int} (he : ¬ e = 1) : Tm.over [0, 0, 0, 0, e] = [] := by
 simp [Tm.over, Tm.overTo, List.range_succ, he]
theorem dec_pos {x : Int} (h : 0 < x) : Tm.dec x = x - 1 := by unfold Tm.dec; rw [if_neg (by omega)]
theorem dec_0 : Tm.dec 0 = 0 := rfl
theorem tick5 (a b c d e : Int) : Tm.tick [a, b, c, d, e] = [Tm.dec a, Tm.dec b, Tm.dec c, Tm.dec d, Tm.dec e] := rfl
theorem tick_no {x : X} (h : Tm.over x.tm = []) (hp : x.poll = false) : ∃ lk, (En.tick x).1 = { x with tm := Tm.tick x.tm, poll := false, lacks := lk } := by
 unfold En.tick
 rw [h]
 show ∃ lk, (En.credit _ _).1 = _
 refine ⟨En.lack { x with tm := Tm.tick x.tm }, ?_⟩
 have := hp
 cases x
 simp only at this
 subst this
 rfl
theorem tick_yes {x : X} {t : Int} (h : Tm.over x.tm = [t]) (ht : t = 1 ∨ t = 4) (he : x.ep.isSome = true) : ∃ lk, (En.tick x).1 = { x with tm := Tm.tick x.tm, poll := true, lacks := lk } := by
 unfold En.tick
 rw [h]
 have e1 : En.dues [t] ({ x with tm := Tm.tick x.tm }, []) = ({ x with tm := Tm.tick x.tm, poll := x.poll || x.ep.isSome }, []) := by
  rcases ht with rfl | rfl <;> rfl
 rw [e1, he, Bool.or_true]
 exact ⟨_, rfl⟩
theorem tick_ok {x : X} {s : Sf.S} {r : Rf.S} (he : x.ep = some (s, r)) (hp : x.poll = false) (ht : T x.c x.tm false false (Idl s)) :
  ∃ lk p, (En.tick x).1 = { x with tm := Tm.tick x.tm, poll := p, lacks := lk } ∧ T x.c (Tm.tick x.tm) false p (Idl s) ∧ (p = false -> ¬ Idl s -> ∃ b k d e, x.tm = [0, b, k, d, e] ∧ Tm.tick x.tm = [0, b - 1, k, d - 1, e]) := by
 have hs : x.ep.isSome = true := by rw [he]; rfl
 obtain ⟨b, k, d, e, hl, h1, h2, h3, h4, h5⟩ := ht
 rw [if_neg (by decide)] at h5
 rcases h5 with h5 | ⟨rfl, rfl, h5, h6, h7⟩ | ⟨hi, rfl, rfl, rfl, h5⟩
 ·cases h5
 ·have hb := dec_pos h5
  have hd := dec_pos (show 0 < d by omega)
  by_cases e1 : b = 1
  ·obtain ⟨lk, h⟩ := tick_yes (x := x) (t := 1) (by rw [hl]; exact over_one h6 e1) (.inl rfl) hs
   refine ⟨lk, true, h, ?_, fun e => by cases e⟩
   rw [hl, tick5, hb, hd, dec_0]
   exact ⟨_, _, _, _, rfl, by omega, by omega, by omega, by omega, by rw [if_neg (by decide)]; exact .inl rfl⟩
  ·obtain ⟨lk, h⟩ := tick_no (x := x) (by rw [hl]; exact over_no h6 h5 e1) hp
   refine ⟨lk, false, h, ?_, fun _ _ => ?_⟩
   ·rw [hl, tick5, hb, hd, dec_0]
    exact ⟨_, _, _, _, rfl, by omega, by omega, by omega, by omega, by rw [if_neg (by decide)]; exact .inr (.inl ⟨rfl, rfl, by omega, by omega, by omega⟩)⟩
   ·exact ⟨b, 0, d, 0, hl, by rw [hl, tick5, hb, hd, dec_0]⟩
 ·have hb := dec_pos h5
  by_cases e1 : e = 1
  ·obtain ⟨lk, h⟩ := tick_yes (x := x) (t := 4) (by rw [hl]; exact over_idle e1) (.inr rfl) hs
   refine ⟨lk, true, h, ?_, fun e => by cases e⟩
   rw [hl, tick5, hb, dec_0]
   exact ⟨_, _, _, _, rfl, by omega, by omega, by omega, by omega, by rw [if_neg (by decide)]; exact .inl rfl⟩
  ·obtain ⟨lk, h⟩ := tick_no (x := x) (by rw [hl]; exact over_idle_no e1) hp
   refine ⟨lk, false, h, ?_, fun _ hn => absurd hi hn⟩
   rw [hl, tick5, hb, dec_0]
   exact ⟨_, _, _, _, rfl, by omega, by omega, by omega, by omega, by rw [if_neg (by decide)]; exact .inr (.inr ⟨hi, rfl, rfl, rfl, by omega⟩)⟩

def Fits (t : St) : Prop := (∃ hi hi2, En.Fit t.a hi hi2) ∧ ∃ hi hi2, En.Fit t.b hi hi2
inductive Lq : Nat -> St -> St -> Prop
 |stop {n : Nat} {t : St} (f : Fits t) (q : (En.quiet t.a && En.quiet t.b) = true) : Lq n t t
 |go {n m : Nat} {t t1 t2 : St} (f : Fits t) (q : (En.quiet t.a && En.quiet t.b) = false) (hp : Pass m ⟨(En.tick t.a).1, (En.tick t.b).1, t.got⟩ t1) (h : Lq n t1 t2) : Lq (n + 1) t t2
theorem quiet_ok {lo N : Int} {x y : X} {sx sy : Sf.S} {rx ry : Rf.S} (h : PI lo N x y sx rx sy ry) (h1 : x.stat = false) (h2 : x.poll = false) : En.quiet x = En.sIdle sx := by
 unfold En.quiet
 rw [h.bx.ctl, h.bx.un, h1, h2, h.ex]
 dsimp only
 rw [h.d2.gaps]
 simp
def Bd (a : X) (s : Sf.S) (mu : Nat) : Prop := Idl s ∨ ∃ b k d e, a.tm = [0, b, k, d, e] ∧ 41 * ((s.wait.length : Int) + 1) + b <= (mu : Int)
theorem M_lt (a b : X) (sa sb : Sf.S) : M a b sa sb < M a b sa sb + 1 := Nat.lt_succ_self _
theorem J.start {md : Nat} {a b : X} {got : List ByteArray} {sa sb : Sf.S} (ib : Idl sb) (h1 : md = 1 -> Stuck sa ∧ a.poll = false ∧ b.stat = false) (h2 : md = 2 -> a.poll = true) : J sa a.tm md got a b got sa sb :=
 ⟨rfl, rfl, Int.le_refl _, ib, ⟨rfl, rfl⟩, fun e => ⟨(h1 e).1, rfl, rfl, (h1 e).2.1, (h1 e).2.2⟩, fun e => .inl ⟨h2 e, rfl, rfl⟩⟩
theorem rest_go {asked : List ByteArray} {lo : Int} : ∀ (mu n : Nat) {N : Int} {a b : X} {got : List ByteArray} {sa sb : Sf.S} {ra rb : Rf.S}, Rest lo N a b sa ra sb rb -> Idl sb -> Bd a sa mu -> mu <= n -> N + mu <= 3998 -> got ++ sa.wait = asked -> got.length + sa.wait.length <= 100000 →
  ∃ t2, Lq n ⟨a, b, got⟩ t2 ∧ t2.got = asked ∧ Fits t2 ∧ En.quiet t2.a = true := by
 intro mu
 induction mu with
 |zero =>
  intro n N a b got sa sb ra rb hr ib hb hn hN hg hl
  obtain ⟨f1, f2⟩ := fit_of hr.pi
  have ff : Fits ⟨a, b, got⟩ := ⟨⟨_, _, f1⟩, ⟨_, _, f2⟩⟩
  have hi : Idl sa := by
   rcases hb with h | ⟨x, k, d, e, h1, h2⟩
   ·exact h
   ·obtain ⟨b1, k1, d1, e1, h3, h4, -⟩ := hr.pi.tx
    rw [h1] at h3
    simp only [List.cons.injEq] at h3
    omega
  have qa : En.quiet a = true := by rw [quiet_ok hr.pi hr.ast hr.ap]; exact (idl_iff sa).2 hi
  have qb : En.quiet b = true := by rw [quiet_ok (hr.pi.swap hr.ast) hr.pi.ys hr.bp]; exact (idl_iff sb).2 ib
  exact ⟨_, .stop ff (by show (En.quiet a && En.quiet b) = true; rw [qa, qb]; rfl), by rw [<- hg, hi.1, List.append_nil], ff, qa⟩
 |succ mu ih =>
  intro n N a b got sa sb ra rb hr ib hb hn hN hg hl
  obtain ⟨f1, f2⟩ := fit_of hr.pi
  have ff : Fits ⟨a, b, got⟩ := ⟨⟨_, _, f1⟩, ⟨_, _, f2⟩⟩
  have qa : En.quiet a = En.sIdle sa := quiet_ok hr.pi hr.ast hr.ap
  have qb : En.quiet b = true := by rw [quiet_ok (hr.pi.swap hr.ast) hr.pi.ys hr.bp]; exact (idl_iff sb).2 ib
  by_cases hi : Idl sa
  ·have qa : En.quiet a = true := by rw [qa]; exact (idl_iff sa).2 hi
   exact ⟨_, .stop ff (by show (En.quiet a && En.quiet b) = true; rw [qa, qb]; rfl), by rw [<- hg, hi.1, List.append_nil], ff, qa⟩
  have qf : En.quiet a = false := by
   rw [qa]
   cases hs : En.sIdle sa
   ·rfl
   ·exact absurd ((idl_iff sa).1 hs) hi
  have hq : (En.quiet a && En.quiet b) = false := by rw [qf]; rfl
  obtain ⟨n, rfl⟩ : ∃ m, n = m + 1 := ⟨n - 1, by omega⟩
  have hp := hr.pi
  have ta : T a.c a.tm false false (Idl sa) := by have := hp.tx; rw [hr.ap] at this; exact this
  have tb : T b.c b.tm false false (Idl sb) := by have := hp.ty; rw [hr.ast, hr.bp] at this; exact this
  obtain ⟨lk, p, ea, ua, va⟩ := tick_ok hp.ex hr.ap ta
  obtain ⟨lk2, p2, eb, ub, -⟩ := tick_ok hp.ey hr.bp tb
  have hN4 : N + 1 <= 4000 := by omega
  have d1 : Dir lo (N + 1) sa rb p := by have := hp.d1; rw [hr.ap] at this; exact this.polled hN4 p
  have d2 : Dir lo (N + 1) sb ra p2 := by have := hp.d2; rw [hr.bp] at this; exact this.polled hN4 p2
  have bx := hp.bx
  have yb := hp.yb
  have hpi : PI lo (N + 1) (En.tick a).1 (En.tick b).1 sa ra sb rb := by
   rw [ea, eb]
   refine ⟨⟨bx.st, bx.con, bx.ctl, bx.un, bx.lf, bx.good⟩, ⟨yb.st, yb.con, yb.ctl, yb.un, yb.lf, yb.good⟩, hp.ex, hp.ey, d1, d2, hp.ys, hp.xa, ua, ?_⟩
   show T b.c (Tm.tick b.tm) a.stat p2 _
   rw [hr.ast]
   exact ub
  have ha' : (En.tick a).1.poll = p := by rw [ea]
  have hs' : (En.tick b).1.stat = false := by rw [eb]; exact hp.ys
  have ht' : (En.tick a).1.tm = Tm.tick a.tm := by rw [ea]
  cases p
  ·have hj := J.start (md := 1) (a := (En.tick a).1) (b := (En.tick b).1) (got := got) (sa := sa) ib (fun _ => ⟨hr.su, ha', hs'⟩) (fun e => by cases e)
   obtain ⟨m, a', b', got', sa', ra', sb', rb', p1, r1, j1⟩ := pass_ok (by omega) hl _ hpi hj (M_lt _ _ _ _)
   obtain ⟨q1, q2, q3, q4, q5⟩ := j1.still rfl
   obtain ⟨x, k, d, e, h1, h2⟩ := va rfl hi
   have hb' : Bd a' sa' mu := by
    rcases hb with h | ⟨x', k', d', e', h3, h4⟩
    ·exact absurd h hi
    ·rw [h1] at h3
     simp only [List.cons.injEq, true_and] at h3
     obtain ⟨rfl, -⟩ := h3
     exact .inr ⟨x - 1, k, d - 1, e, by rw [q3, ht', h2], by rw [q2]; omega⟩
   have hc := j1.cons
   have hlen := congrArg List.length hc
   rw [List.length_append, List.length_append] at hlen
   obtain ⟨t2, i1, i2, i3, i4⟩ := ih n r1 j1.ib hb' (by omega) (by omega) (hc.trans hg) (by omega)
   exact ⟨t2, .go ff hq p1 i1, i2, i3, i4⟩
  ·have hj := J.start (md := 2) (a := (En.tick a).1) (b := (En.tick b).1) (got := got) (sa := sa) ib (fun e => by cases e) (fun _ => ha')
   obtain ⟨m, a', b', got', sa', ra', sb', rb', p1, r1, j1⟩ := pass_ok (by omega) hl _ hpi hj (M_lt _ _ _ _)
   have hb' : Bd a' sa' mu := by
    rcases j1.z rfl with ⟨e1, -⟩ | ⟨e1, -⟩ | ⟨e1, e2⟩
    ·rw [r1.ap] at e1; cases e1
    ·rw [r1.pi.ys] at e1; cases e1
    ·by_cases hi' : Idl sa'
     ·exact .inl hi'
     ·obtain ⟨b1, k1, d1, e1', h3, h4, -, -, -, h5⟩ := r1.pi.tx
      rw [if_neg (by decide), r1.ap] at h5
      have hb40 : b1 <= 40 := by
       rcases h5 with h5 | ⟨-, -, h5, h6, h7⟩ | ⟨h5, -⟩
       ·cases h5
       ·have := r1.pi.bx.good; unfold Good GoodC at this; omega
       ·exact absurd h5 hi'
      refine .inr ⟨b1, k1, d1, e1', h3, ?_⟩
      have hnum := j1.num
      have hw0 : 1 <= sa.wait.length := by
       cases hw : sa.wait with
       |nil => exact absurd (e2 hw) hi'
       |cons v l => simp
      have hless : sa'.wait.length + 1 <= sa.wait.length := by
       rcases r1.su.2 with h | h
       ·rw [h]; simp; omega
       ·omega
      rcases hb with h | ⟨x, k, d, e, h6, h7⟩
      ·exact absurd h hi
      ·obtain ⟨b2, k2, d2, e2', h8, h9, -⟩ := hp.tx
       rw [h6] at h8
       simp only [List.cons.injEq, true_and] at h8
       obtain ⟨rfl, -⟩ := h8
       have := h9.1
       omega
   have hc := j1.cons
   have hlen := congrArg List.length hc
   rw [List.length_append, List.length_append] at hlen
   obtain ⟨t2, i1, i2, i3, i4⟩ := ih n r1 j1.ib hb' (by omega) (by omega) (hc.trans hg) (by omega)
   exact ⟨t2, .go ff hq p1 i1, i2, i3, i4⟩
def putA (a : X) (d : ByteArray) : X := (En.request a 7 d 0).1
def putE (a : X) (d : ByteArray) : Int := (En.request a 7 d 0).2.2
def more1 (a : X) (az : List ByteArray) (d : ByteArray) : List ByteArray := if putE a d = 0 then az ++ [d] else az
def Fit1 (a : X) : Prop := (∃ hi hi2, En.Fit a hi hi2) ∧ a.left.length <= 1000000
inductive Ms (L : List ByteArray) : Nat -> St -> List ByteArray -> St -> List ByteArray -> Prop
 |stop {i : Nat} {t : St} {az : List ByteArray} (h : ¬ (i < L.length ∧ i < 40)) : Ms L i t az t az
 |put {i : Nat} {t t2 : St} {az as2 : List ByteArray} (h : i < L.length ∧ i < 40) (f : Fit1 t.a) (ha : az.length <= i) (hi : ¬ i % 3 = 0) (hm : Ms L (i + 1) ⟨putA t.a (L.getD i default), t.b, t.got⟩ (more1 t.a az (L.getD i default)) t2 as2) : Ms L i t az t2 as2
 |pass {i m : Nat} {t t1 t2 : St} {az as2 : List ByteArray} (h : i < L.length ∧ i < 40) (f : Fit1 t.a) (ha : az.length <= i) (hi : i % 3 = 0) (hp : Pass m ⟨putA t.a (L.getD i default), t.b, t.got⟩ t1) (hm : Ms L (i + 1) t1 (more1 t.a az (L.getD i default)) t2 as2) : Ms L i t az t2 as2
theorem Rest.calm {lo N : Int} {a b : X} {sa : Sf.S} {ra : Rf.S} {sb : Sf.S} {rb : Rf.S} (h : Rest lo N a b sa ra sb rb) (ib : Idl sb) : Calm lo N a b sa ra sb rb := ⟨h.pi, h.ast, h.ap, h.bp, ib⟩
theorem ms_ok {L : List ByteArray} (hL : ∀ v ∈ L, v.size <= 200) {lo : Int} : ∀ (k i : Nat) {a b : X} {got az : List ByteArray} {sa sb : Sf.S} {ra rb : Rf.S}, i + k = 40 -> Calm lo (i : Int) a b sa ra sb rb -> got ++ sa.wait = az -> az.length <= i →
  ∃ a' b' got' az' sa' ra' sb' rb', Ms L i ⟨a, b, got⟩ az ⟨a', b', got'⟩ az' ∧ Calm lo 40 a' b' sa' ra' sb' rb' ∧ got' ++ sa'.wait = az' ∧ az'.length <= 40 := by
 intro k
 induction k with
 |zero =>
  intro i a b got az sa sb ra rb hi hc hg hl
  obtain rfl : i = 40 := by omega
  exact ⟨a, b, got, az, sa, ra, sb, rb, .stop (by omega), hc, hg, hl⟩
 |succ k ih =>
  intro i a b got az sa sb ra rb hi hc hg hl
  by_cases hlt : i < L.length
  ·have h40 : i < L.length ∧ i < 40 := ⟨hlt, by omega⟩
   have hd : (L.getD i default).size <= 200 := by
    rw [List.getD_eq_getElem?_getD, List.getElem?_eq_getElem hlt]
    exact hL _ (List.getElem_mem hlt)
   obtain ⟨d, hde⟩ := xq (L.getD i default)
   rw [<- hde] at hd
   obtain ⟨a1, r, e, sa1, h1, h2, h3⟩ := put_ok hc d hd (by omega)
   have ea : putA a d = a1 := by unfold putA; rw [h1]
   have ee : putE a d = e := by unfold putE; rw [h1]
   obtain ⟨f1, f2⟩ := fit_of hc.pi
   have ff : Fit1 a := ⟨⟨_, _, f1⟩, by rw [hc.pi.bx.lf]; simp⟩
   have hg1 : got ++ sa1.wait = more1 a az d ∧ (more1 a az d).length <= i + 1 := by
    unfold more1
    rw [ee]
    rcases h3 with ⟨h3, h4⟩ | ⟨h3, h4⟩
    ·rw [if_pos h3, h4, <- List.append_assoc, hg]
     exact ⟨rfl, by simp; omega⟩
    ·rw [if_neg h3, h4, hg]
     exact ⟨rfl, by omega⟩
   have h2 : Calm lo ((i + 1 : Nat) : Int) a1 b sa1 ra sb rb := by
    have e : ((i + 1 : Nat) : Int) = (i : Int) + 1 := by omega
    rw [e]; exact h2
   by_cases h3 : i % 3 = 0
   ·have hlen := congrArg List.length hg1.1
    rw [List.length_append] at hlen
    have hj := J.start (md := 0) (a := a1) (b := b) (got := got) (sa := sa1) h2.ib (fun e => by cases e) (fun e => by cases e)
    obtain ⟨m, a', b', got', sa', ra', sb', rb', p1, r1, j1⟩ := pass_ok (by omega) (by omega) _ h2.pi hj (M_lt _ _ _ _)
    obtain ⟨a2, b2, got2, as2, sa2, ra2, sb2, rb2, i1, i2⟩ := ih (i + 1) (by omega) (r1.calm j1.ib) (j1.cons.trans hg1.1) hg1.2
    rw [<- ea, hde] at p1
    rw [hde] at i1
    exact ⟨a2, b2, got2, as2, sa2, ra2, sb2, rb2, .pass h40 ff hl h3 p1 i1, i2⟩
   ·obtain ⟨a2, b2, got2, as2, sa2, ra2, sb2, rb2, i1, i2⟩ := ih (i + 1) (by omega) h2 hg1.1 hg1.2
    rw [<- ea, hde] at i1
    exact ⟨a2, b2, got2, as2, sa2, ra2, sb2, rb2, .put h40 ff hl h3 i1, i2⟩
  ·have hN : (i : Int) <= 40 := by omega
   have hp := hc.pi
   refine ⟨a, b, got, az, sa, ra, sb, rb, .stop (by omega), ⟨⟨hp.bx, hp.yb, hp.ex, hp.ey, hp.d1.mono hN (by omega), hp.d2.mono hN (by omega), hp.ys, hp.xa, hp.tx, hp.ty⟩, hc.ast, hc.ap, hc.bp, hc.ib⟩, hg, by omega⟩
theorem all_ok {c d : Nd.C} (hc : CG c) (hd : CG d) (hs : d.start % 16777216 = c.start % 16777216) {L : List ByteArray} (hL : ∀ v ∈ L, v.size <= 200) :
  ∃ n t1, Pass n ⟨aAsk c, En.new d, []⟩ t1 ∧ Fits t1 ∧ (t1.a.conn.state = 10 ∧ t1.b.conn.state = 10) ∧ (∃ e, t1.a.ep = some e ∧ e.1.ms % 16777216 = (d.start + d.window) % 16777216) ∧ ((∀ e, t1.a.ep = some e -> e.1.again = []) ∧ ∀ e, t1.b.ep = some e -> e.1.again = []) ∧ t1.got = [] ∧
  ∃ t2 az, Ms L 0 t1 [] t2 az ∧ az.length <= 40 ∧ ∃ m t3 t4, Pass m t2 t3 ∧ Lq 2459 t3 t4 ∧ t4.got = az ∧ Fits t4 ∧ En.quiet t4.a = true := by
 obtain ⟨r0, m0, a, b, sa, ra, sb, rb, e0, h1, h2, h3, h4, h5⟩ := first hc hd hs
 have hp := h1.pi
 have hst : Stuck sa := by
  have g1 := hp.d1.psi
  have g2 := hp.d1.ok.pas
  have g3 := hp.d1.ok.lpa
  have g4 := hp.d1.ok.units
  have g5 := hp.d1.ok.polls
  have g6 := b1_bd a.poll
  exact ⟨by omega, .inl h2⟩
 have hj := J.start (md := 1) (a := a) (b := b) (got := []) (sa := sa) h1.ib (fun _ => ⟨hst, h1.ap, hp.ys⟩) (fun e => by cases e)
 obtain ⟨n, a', b', got', sa', ra', sb', rb', p1, r1, j1⟩ := pass_ok (by omega) (by rw [h2]; simp) _ hp hj (M_lt _ _ _ _)
 obtain ⟨q1, q2, q3, q4, q5⟩ := j1.still rfl
 have hg : got' = [] := by
  have := j1.cons
  rw [q2, h2, List.append_nil, List.append_nil] at this
  exact this
 subst hg
 obtain ⟨f1, f2⟩ := fit_of r1.pi
 rw [<- e0] at p1
 have ga : ∀ e, a'.ep = some e -> e.1.again = [] := fun e he => by
  rw [<- Option.some.inj (r1.pi.ex.symm.trans he)]
  exact r1.pi.d1.again
 have gb : ∀ e, b'.ep = some e -> e.1.again = [] := fun e he => by
  rw [<- Option.some.inj (r1.pi.ey.symm.trans he)]
  exact r1.pi.d2.again
 have hm : ∃ e, a'.ep = some e ∧ e.1.ms % 16777216 = (d.start + d.window) % 16777216 := ⟨_, r1.pi.ex, by rw [q2]; exact h5⟩
 have hP : Pass (n + 1) ⟨aAsk c, En.new d, []⟩ ⟨a', b', []⟩ := by
  generalize aAsk c = x at r0 m0 p1 ⊢
  exact .go r0 m0 p1
 refine ⟨n + 1, ⟨a', b', []⟩, hP, ⟨⟨_, _, f1⟩, ⟨_, _, f2⟩⟩, ⟨r1.pi.bx.con, r1.pi.yb.con⟩, hm, ⟨ga, gb⟩, rfl, ?_⟩
 clear hP e0 r0 m0 p1
 obtain ⟨a2, b2, got2, as2, sa2, ra2, sb2, rb2, i1, i2, i3, i4⟩ := ms_ok hL 40 0 (a := a') (b := b') (got := []) (az := []) rfl (r1.calm j1.ib) (by rw [q2, h2]; rfl) (by simp)
 refine ⟨_, as2, i1, i4, ?_⟩
 have hlen := congrArg List.length i3
 rw [List.length_append] at hlen
 have hj := J.start (md := 0) (a := a2) (b := b2) (got := got2) (sa := sa2) i2.ib (fun e => by cases e) (fun e => by cases e)
 obtain ⟨m, a3, b3, got3, sa3, ra3, sb3, rb3, p3, r3, j3⟩ := pass_ok (by omega) (by omega) _ i2.pi hj (M_lt _ _ _ _)
 have hc3 := j3.cons
 have hlen3 := congrArg List.length hc3
 rw [List.length_append, List.length_append] at hlen3
 have hbd : Bd a3 sa3 1721 := by
  by_cases hi : Idl sa3
  ·exact .inl hi
  ·obtain ⟨x, k, d, e, h3, h4, -, -, -, h5⟩ := r3.pi.tx
   rw [if_neg (by decide), r3.ap] at h5
   refine .inr ⟨x, k, d, e, h3, ?_⟩
   have : x <= 40 := by
    rcases h5 with h5 | ⟨-, -, h5, h6, h7⟩ | ⟨h5, -⟩
    ·cases h5
    ·have := r3.pi.bx.good; unfold Good GoodC at this; omega
    ·exact absurd h5 hi
   omega
 obtain ⟨t4, l1, l2, l3, l4⟩ := rest_go 1721 2459 r3 j3.ib hbd (by omega) (by omega) (hc3.trans i3) (by omega)
 exact ⟨m, _, t4, p3, l1, l2, l3, l4⟩
end Pr
end Go.Proofs.YtnenaemincfgpaaGreat

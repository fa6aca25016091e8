/-
  Two ends that hear one another, plain: one unit goes from one to the other. No program is named · Two ends that hear one another, plain: a half of a round, and what it brings. No program is named · Two ends that hear one another, plain: a pass ends, and what it leaves. No program is named · Two ends that hear one another, plain: the beginning. No program is named.
-/
import Derived.Test.YtnenaemincfgpaaGreatPrA
import Derived.Test.YtnenaemincfgpaaGreatEnQt
import Derived.Test.YtnenaemincfgpaaGreatNdP
namespace Go.Proofs.YtnenaemincfgpaaGreat
namespace Pr
open En (X)

theorem clamp41 {c : Int} (h : 1 <= c ∧ c <= 41) : max 1 (min c 1048576) = c := by omega
def Good (c : Nd.C) : Prop := GoodC c.cc c.poll c.keep c.silent c.idle
def Tr (p : Int) (pend poll : Bool) (idle : Prop) (b k d e : Int) : Prop :=
 (0 <= b ∧ b <= 41) ∧ (0 <= k ∧ k <= 41) ∧ (0 <= d ∧ d <= 41) ∧ (0 <= e ∧ e <= 41) ∧
 if pend = true then poll = false ∧ e = 0 ∧ 0 < d ∧ ((idle ∧ b = 0 ∧ 0 < k) ∨ (k = 0 ∧ b = p))
 else poll = true ∨ (k = 0 ∧ e = 0 ∧ 0 < b ∧ b < d ∧ b <= p) ∨ (idle ∧ b = 0 ∧ k = 0 ∧ d = 0 ∧ 0 < e)
def T (c : Nd.C) (l : List Int) (pend poll : Bool) (idle : Prop) : Prop := ∃ b k d e, l = [0, b, k, d, e] ∧ Tr c.poll pend poll idle b k d e
section
variable {c : Nd.C} {l : List Int} {poll : Bool} {s : Sf.S}
theorem tl2 (a b c d e : Int) : Tm.left [a, b, c, d, e] 2 = c := rfl
theorem tl4 (a b c d e : Int) : Tm.left [a, b, c, d, e] 4 = e := rfl
theorem polled_eq (hG : Good c) (a b k d e : Int) (idle : Bool) : Pc.polled [a, b, k, d, e] c.poll c.keep c.silent idle = [a, if idle = true then 0 else c.poll, if idle = true then c.keep else 0, if 0 < d then d else c.silent, 0] := by
 cases idle <;> by_cases h : 0 < d <;> simp [Pc.polled, Pc.watch, Pc.stops, Tm.stop, Tm.start, Tm.left, clamp41 hG.2.1, clamp41 hG.2.2.1, clamp41 hG.2.2.2.1, h]
theorem busy_eq (hG : Good c) (a b k d e : Int) (h : 0 < k ∨ 0 < e) : Pc.busy [a, b, k, d, e] c.poll c.silent = [a, c.poll, 0, if 0 < d then d else c.silent, 0] := by
 unfold Pc.busy
 rw [tl2, tl4, if_pos h]
 by_cases h : 0 < d <;> simp [Pc.watch, Pc.stops, Tm.stop, Tm.start, Tm.left, clamp41 hG.2.1, clamp41 hG.2.2.2.1, h]
theorem answered_idle (hG : Good c) (a b k d e : Int) (h : 0 < k) : Pc.answered [a, b, k, d, e] c.silent c.idle true = [a, b, 0, 0, c.idle] := by
 unfold Pc.answered
 rw [tl2, if_pos ⟨rfl, h⟩]
 simp [Pc.stops, Tm.stop, Tm.start, clamp41 hG.2.2.2.2.1]
theorem answered_no (hG : Good c) (a b k d e : Int) (idle : Bool) (h : ¬ (idle = true ∧ 0 < k)) : Pc.answered [a, b, k, d, e] c.silent c.idle idle = [a, b, k, if 0 < e then d else c.silent, e] := by
 unfold Pc.answered
 rw [tl2, tl4, if_neg h]
 by_cases h : 0 < e <;> simp [Tm.start, clamp41 hG.2.2.2.1, h]
theorem T.polled (h : T c l false poll (Idl s)) (hG : Good c) : T c (Pc.polled l c.poll c.keep c.silent (En.sIdle s)) true false (Idl (Sf.poll s)) := by
 obtain ⟨b, k, d, e, rfl, h1, h2, h3, h4, h5⟩ := h
 rw [polled_eq hG]
 have hi := idl_iff s
 obtain ⟨⟨a0, b0⟩, ⟨a1, b1⟩, ⟨a2, b2⟩, ⟨a3, b3⟩, ⟨a4, b4⟩, h13, h23⟩ := id hG
 refine ⟨_, _, _, _, rfl, ?_⟩
 have hd : 0 < (if 0 < d then d else c.silent) ∧ (if 0 < d then d else c.silent) <= 41 := by split <;> omega
 generalize (if 0 < d then d else c.silent) = d' at *
 cases hs : En.sIdle s
 ·refine ⟨by simp; omega, by simp, by omega, by simp, ?_⟩
  rw [if_pos rfl]
  exact ⟨rfl, rfl, hd.1, .inr ⟨rfl, rfl⟩⟩
 ·refine ⟨by simp, by simp; omega, by omega, by simp, ?_⟩
  rw [if_pos rfl]
  exact ⟨rfl, rfl, hd.1, .inl ⟨hi.1 hs, rfl, by simp; omega⟩⟩
theorem T.answered {s' : Sf.S} (h : T c l true poll (Idl s)) (hG : Good c) (hw : s'.wait = s.wait) (hk : s'.kept = []) : T c (Pc.answered l c.silent c.idle (En.sIdle s')) false poll (Idl s') := by
 obtain ⟨b, k, d, e, rfl, h1, h2, h3, h4, h5⟩ := h
 rw [if_pos rfl] at h5
 obtain ⟨rfl, rfl, h6, h7⟩ := h5
 obtain ⟨⟨a0, b0⟩, ⟨a1, b1⟩, ⟨a2, b2⟩, ⟨a3, b3⟩, ⟨a4, b4⟩, h13, h23⟩ := id hG
 rcases h7 with ⟨hi, rfl, hk0⟩ | ⟨rfl, rfl⟩
 ·have hi2 : Idl s' := ⟨hw.trans hi.1, hk⟩
  rw [(idl_iff s').2 hi2, answered_idle hG _ _ _ _ _ hk0]
  refine ⟨_, _, _, _, rfl, by omega, by omega, by omega, by omega, ?_⟩
  rw [if_neg (by decide)]
  exact .inr (.inr ⟨hi2, rfl, rfl, rfl, by omega⟩)
 ·rw [answered_no hG _ _ _ _ _ _ (by omega), if_neg (by decide)]
  refine ⟨_, _, _, _, rfl, h1, h2, by omega, h4, ?_⟩
  rw [if_neg (by decide)]
  exact .inr (.inl ⟨rfl, rfl, by omega, by omega, Int.le_refl _⟩)
theorem T.data {s' : Sf.S} (h : T c l false poll (Idl s)) (hn : ¬ Idl s) : T c l false poll (Idl s') := by
 obtain ⟨b, k, d, e, rfl, h1, h2, h3, h4, h5⟩ := h
 refine ⟨b, k, d, e, rfl, h1, h2, h3, h4, ?_⟩
 rw [if_neg (by decide)] at h5 ⊢
 rcases h5 with h5 | h5 | h5
 ·exact .inl h5
 ·exact .inr (.inl h5)
 ·exact absurd h5.1 hn
theorem T.put {s' : Sf.S} (h : T c l false false (Idl s)) (hG : Good c) : T c (Pc.busy l c.poll c.silent) false false (Idl s') := by
 obtain ⟨b, k, d, e, rfl, h1, h2, h3, h4, h5⟩ := h
 rw [if_neg (by decide)] at h5
 obtain ⟨⟨a0, b0⟩, ⟨a1, b1⟩, ⟨a2, b2⟩, ⟨a3, b3⟩, ⟨a4, b4⟩, h13, h23⟩ := id hG
 rcases h5 with h5 | ⟨rfl, rfl, h5, h6, h7⟩ | ⟨_, rfl, rfl, rfl, h5⟩
 ·cases h5
 ·unfold Pc.busy
  rw [tl2, tl4, if_neg (by decide)]
  refine ⟨_, _, _, _, rfl, h1, h2, h3, h4, ?_⟩
  rw [if_neg (by decide)]
  exact .inr (.inl ⟨rfl, rfl, h5, h6, h7⟩)
 ·rw [busy_eq hG _ _ _ _ _ (.inr h5), if_neg (by decide)]
  refine ⟨_, _, _, _, rfl, by omega, by omega, by omega, by omega, ?_⟩
  rw [if_neg (by decide)]
  exact .inr (.inl ⟨rfl, rfl, by omega, by omega, Int.le_refl _⟩)
end

structure Base (lo : Int) (x : X) : Prop where
 st : x.c.start % 16777216 = lo
 con : x.conn.state = 10
 ctl : x.ctl = []
 un : x.units = []
 lf : x.left = []
 good : Good x.c
structure PI (lo N : Int) (x y : X) (sx : Sf.S) (rx : Rf.S) (sy : Sf.S) (ry : Rf.S) : Prop where
 bx : Base lo x
 yb : Base lo y
 ex : x.ep = some (sx, rx)
 ey : y.ep = some (sy, ry)
 d1 : Dir lo N sx ry x.poll
 d2 : Dir lo N sy rx y.poll
 ys : y.stat = false
 xa : x.stat = true -> x.asked = sy.ps % 16777216
 tx : T x.c x.tm false x.poll (Idl sx)
 ty : T y.c y.tm x.stat y.poll (Idl sy)

def acc (y : X) (l : List Cn.Sig) : X := l.foldl (fun y s => if s.kind = 1 then (En.request y 2 Cn.no 0).1 else y) y
def hears (y : X) (u : Cn.Pd) (l : List Int) : X := (En.request (acc (En.receive y u l).1 (En.receive y u l).2) 10 Cn.no 64).1
def gets (l : List Cn.Sig) : List ByteArray := (l.filter fun s => s.kind == 8).map (·.data)
theorem acc_no (y : X) : ∀ l : List Cn.Sig, (∀ s ∈ l, s.kind ≠ 1) -> acc y l = y
 |[], _ => rfl
 |s :: l, h => by
  unfold acc
  rw [List.foldl_cons, if_neg (h s (by simp))]
  exact acc_no y l fun t ht => h t (by simp [ht])
theorem gets_append (l m : List Cn.Sig) : gets (l ++ m) = gets l ++ gets m := by unfold gets; rw [List.filter_append, List.map_append]
theorem credit_sig (y : X) (l : List Cn.Sig) (h : ∀ s ∈ l, s.kind ≠ 1) : (∀ s ∈ (En.credit y l).2, s.kind ≠ 1) ∧ gets (En.credit y l).2 = gets l := by
 have hr : ∀ c : Int, (∀ s ∈ l ++ [En.rep c 0], s.kind ≠ 1) ∧ gets (l ++ [En.rep c 0]) = gets l := fun c => by
  refine ⟨fun s hs => ?_, by rw [gets_append]; show gets l ++ [] = _; rw [List.append_nil]⟩
  rcases List.mem_append.1 hs with hs | hs
  ·exact h s hs
  ·rw [List.mem_singleton.1 hs]; show (12 : Int) ≠ 1; decide
 unfold En.credit
 dsimp only
 split
 ·exact hr 87
 ·split
  ·exact hr 88
  ·exact ⟨h, rfl⟩
theorem may10 : Ru.may 10 10 = true := by decide +kernel
theorem err10 : Ev.err 10 Cn.no 64 = 0 := by decide +kernel
theorem take_eq {y : X} {s : Sf.S} {r : Rf.S} (hc : y.conn.state = 10) (he : y.ep = some (s, r)) : ∃ lk, (En.request y 10 Cn.no 64).1 = { y with ep := some (s, En.took r 64), lacks := lk } := by
 have h1 : En.ask y 10 Cn.no 64 = (En.take y 64, [], 0) := rfl
 have h2 : En.take y 64 = { y with ep := some (s, En.took r 64) } := by unfold En.take; rw [he]
 unfold En.request
 rw [err10, hc, may10, h1, h2]
 exact ⟨_, rfl⟩
theorem hears_eq {y : X} {e : Sf.S × Rf.S} (he : y.ep = some e) (u : Cn.Pd) (l : List Int) (hu : En.ofEp u.kind = true) {y1 : X} {sg : List Cn.Sig} (ht : En.transfer y e u l = (y1, sg)) (hsg : ∀ s ∈ sg, s.kind ≠ 1) (hc : y1.conn.state = 10) {s : Sf.S} {r : Rf.S} (he1 : y1.ep = some (s, r)) :
  (∃ lk, hears y u l = { y1 with ep := some (s, En.took r 64), lacks := lk }) ∧ gets (En.receive y u l).2 = gets sg := by
 have h13 : ¬ u.kind = 13 := fun e => by rw [e] at hu; cases hu
 have h14 : ¬ u.kind = 14 := fun e => by rw [e] at hu; cases hu
 have hh : En.hear y u l = (y1, sg) := by
  unfold En.hear
  rw [if_neg h13, if_neg h14, he]
  simp only
  rw [if_pos hu, ht]
 have hr : En.receive y u l = En.credit y1 sg := by unfold En.receive; rw [hh]
 obtain ⟨g1, g2⟩ := credit_sig y1 sg hsg
 refine ⟨?_, by rw [hr]; exact g2⟩
 unfold hears
 rw [hr, acc_no _ _ g1]
 obtain ⟨lk, h⟩ := take_eq (y := (En.credit y1 sg).1) (s := s) (r := r) hc he1
 exact ⟨lk, h⟩
end Pr
namespace Pr
open En (X)

inductive Mv (x y x' y' : X) (sx sy sx' sy' : Sf.S) : Option ByteArray -> Prop
 |stat (m : Int) (h : x.stat = true) (hm : 1 <= m) (h1 : sx' = sx) (h2 : sy' = acked sy m) (h3 : x'.poll = x.poll) (h4 : y'.poll = y.poll) (h5 : x'.stat = false) (h6 : y'.stat = y.stat) (h7 : x'.tm = x.tm) : Mv x y x' y' sx sy sx' sy' none
 |poll (h : x.stat = false) (hp : x.poll = true ∨ sx.polls <= sx.units) (h1 : sx' = Sf.poll sx) (h2 : sy' = sy) (h3 : x'.poll = false) (h4 : y'.poll = y.poll) (h5 : x'.stat = false) (h6 : y'.stat = true) (h7 : y'.tm = y.tm) (h8 : ¬ Idl sx -> ∃ b k d e, x'.tm = [b, x.c.poll, k, d, e]) : Mv x y x' y' sx sy sx' sy' none
 |data (v : ByteArray) (l : List ByteArray) (h : x.stat = false) (hp : ¬ (x.poll = true ∨ sx.polls <= sx.units)) (hw : sx.wait = v :: l) (hm : sx.s < sx.ms) (h1 : sx' = Sf.fresh1 sx v l) (h2 : sy' = sy) (h3 : x'.poll = x.poll) (h4 : y'.poll = y.poll) (h5 : x'.stat = x.stat) (h6 : y'.stat = y.stat) (h7 : x'.tm = x.tm) (h8 : y'.tm = y.tm) : Mv x y x' y' sx sy sx' sy' (some v)
def UB (u : Cn.Pd) (l : List Int) : Prop := (0 <= u.n ∧ u.n < 16777216) ∧ (0 <= u.mr ∧ u.mr < 16777216) ∧ l.length <= 1000000 ∧ u.lA = none ∧ u.ln = 0 ∧ u.lc = 0
theorem fit_of {lo N : Int} {x y : X} {sx sy : Sf.S} {rx ry : Rf.S} (h : PI lo N x y sx rx sy ry) : En.Fit x (lo + N) (lo + N) ∧ En.Fit y (lo + N) (lo + N) := by
 have hN := h.d1.n0
 have a := h.bx
 have b := h.yb
 constructor
 ·refine ⟨by rw [a.ctl]; exact List.nodup_nil, (by rw [a.ctl]; intro u hu; cases hu), by rw [a.st]; omega, by rw [a.st]; omega, fun e he => ?_, ?_⟩
  ·rw [h.ex] at he; injection he with he; subst he; rw [a.st]; exact ⟨h.d1.ok, h.d2.rok⟩
  ·rw [h.ex, a.con]; rfl
 ·refine ⟨by rw [b.ctl]; exact List.nodup_nil, (by rw [b.ctl]; intro u hu; cases hu), by rw [b.st]; omega, by rw [b.st]; omega, fun e he => ?_, ?_⟩
  ·rw [h.ey] at he; injection he with he; subst he; rw [b.st]; exact ⟨h.d2.ok, h.d1.rok⟩
  ·rw [h.ey, b.con]; rfl
def Half (lo N : Int) (x y : X) (sx sy : Sf.S) : X × Option (Cn.Pd × List Int) -> Prop
 |(x', none) => x' = x ∧ x.stat = false ∧ x.poll = false ∧ sx.units < sx.polls ∧ (sx.wait = [] ∨ sx.ms <= sx.s)
 |(x', some (u, l)) => UB u l ∧ (En.receive y u l).1.left = [] ∧ (∀ s ∈ (En.receive y u l).2, s.kind ≠ 1) ∧ ∃ sx' rx' sy' ry' o, gets (En.receive y u l).2 = o.toList ∧ PI lo N (hears y u l) x' sy' ry' sx' rx' ∧ Mv x y x' (hears y u l) sx sy sx' sy' o
theorem hears_sig {y : X} {e : Sf.S × Rf.S} (he : y.ep = some e) (u : Cn.Pd) (l : List Int) (hu : En.ofEp u.kind = true) {y1 : X} {sg : List Cn.Sig} (ht : En.transfer y e u l = (y1, sg)) (hsg : ∀ s ∈ sg, s.kind ≠ 1) : (∀ s ∈ (En.receive y u l).2, s.kind ≠ 1) ∧ (En.receive y u l).1.left = y1.left := by
 have h13 : ¬ u.kind = 13 := fun e => by rw [e] at hu; cases hu
 have h14 : ¬ u.kind = 14 := fun e => by rw [e] at hu; cases hu
 have hh : En.hear y u l = (y1, sg) := by
  unfold En.hear
  rw [if_neg h13, if_neg h14, he]
  simp only
  rw [if_pos hu, ht]
 have hr : En.receive y u l = En.credit y1 sg := by unfold En.receive; rw [hh]
 rw [hr]
 exact ⟨(credit_sig y1 sg hsg).1, rfl⟩
theorem md (n : Int) : 0 <= n % 16777216 ∧ n % 16777216 < 16777216 := by omega
section
variable {x : X} {s : Sf.S} {r : Rf.S}
theorem next_stat (hc : x.ctl = []) (hu : x.units = []) (he : x.ep = some (s, r)) (hs : x.stat = true) : En.next x = ({ x with stat := false, ep := some (s, Rf.renew r) }, some (En.numed 11 ((Rf.renew r).R % 16777216) x.asked ((Rf.renew r).MR % 16777216) Cn.no, En.pairs (Rf.renew r))) := by
 obtain ⟨c, conn, tm, ctl, us, lf, po, st, ak, lk0, ep⟩ := x
 obtain rfl : ctl = [] := hc
 obtain rfl : us = [] := hu
 obtain rfl : ep = some (s, r) := he
 obtain rfl : st = true := hs
 rfl
theorem next_poll (hc : x.ctl = []) (hu : x.units = []) (he : x.ep = some (s, r)) (hs : x.stat = false) (hg : Rf.gap r = (r, 0, 0, false)) (hp : x.poll = true ∨ s.polls <= s.units) :
  En.next x = ({ x with poll := false, ep := some (Sf.poll s, r), tm := Pc.polled x.tm x.c.poll x.c.keep x.c.silent (En.sIdle s) }, some (En.numed 10 (s.s % 16777216) ((s.ps + 1) % 16777216) 0 Cn.no, [])) := by
 obtain ⟨c, conn, tm, ctl, us, lf, po, st, ak, lk0, ep⟩ := x
 obtain rfl : ctl = [] := hc
 obtain rfl : us = [] := hu
 obtain rfl : ep = some (s, r) := he
 obtain rfl : st = false := hs
 unfold En.next
 dsimp only
 rw [if_neg (by decide), hg]
 dsimp only
 rw [if_neg (by decide), if_pos (by rw [Bool.or_eq_true, decide_eq_true_iff]; exact hp)]
theorem next_data (hc : x.ctl = []) (hu : x.units = []) (he : x.ep = some (s, r)) (hs : x.stat = false) (hg : Rf.gap r = (r, 0, 0, false)) (hp : ¬ (x.poll = true ∨ s.polls <= s.units)) :
  En.next x = ({ x with ep := some ((Sf.next s).1, r) }, if (Sf.next s).2.2.2.2 then some (En.numed 8 ((Sf.next s).2.1 % 16777216) 0 0 (Sf.next s).2.2.1, []) else none) := by
 obtain ⟨c, conn, tm, ctl, us, lf, po, st, ak, lk0, ep⟩ := x
 obtain rfl : ctl = [] := hc
 obtain rfl : us = [] := hu
 obtain rfl : ep = some (s, r) := he
 obtain rfl : st = false := hs
 unfold En.next
 dsimp only
 rw [if_neg (by decide), hg]
 dsimp only
 rw [if_neg (by decide), if_neg (by rw [Bool.or_eq_true, decide_eq_true_iff]; exact hp)]
end
theorem half_ok {lo N : Int} {x y : X} {sx sy : Sf.S} {rx ry : Rf.S} (h : PI lo N x y sx rx sy ry) : Half lo N x y sx sy (En.next x) := by
 have hN := h.d1.n0
 cases hst : x.stat
 ·have hgap := gap_no h.d2
  by_cases hp : x.poll = true ∨ sx.polls <= sx.units
  ·rw [next_poll h.bx.ctl h.bx.un h.ex hst hgap hp]
   obtain ⟨d1, d2, d3⟩ := h.d1.polls hp
   have ht : En.transfer y (sy, ry) (En.numed 10 (sx.s % 16777216) ((sx.ps + 1) % 16777216) 0 Cn.no) [] = ({ y with ep := some (sy, ry), stat := true, asked := (sx.ps + 1) % 16777216 }, []) := by
    unfold En.transfer En.numed
    dsimp only
    rw [if_neg (by decide), if_pos rfl]
    rw [if_pos d2]
    show (({ y with ep := some (sy, Rf.poll ry (sx.s % 16777216)), stat := true, asked := (sx.ps + 1) % 16777216 }, []) : X × List Cn.Sig) = _
    rw [d3]
   obtain ⟨⟨lk, e1⟩, e2⟩ := hears_eq h.ey _ [] rfl ht (fun s hs => by cases hs) h.yb.con rfl
   obtain ⟨s1, s2⟩ := hears_sig h.ey _ [] rfl ht (fun s hs => by cases hs)
   rw [took_no d1] at e1
   refine ⟨⟨md _, ⟨Int.le_refl _, by show (0 : Int) < _; decide⟩, by simp, rfl, rfl, rfl⟩, s2.trans h.yb.lf, s1, Sf.poll sx, rx, sy, ry, none, e2, ?_, ?_⟩
   ·rw [e1]
    have hty := h.ty
    rw [hst] at hty
    exact ⟨⟨h.yb.st, h.yb.con, h.yb.ctl, h.yb.un, h.yb.lf, h.yb.good⟩, ⟨h.bx.st, h.bx.con, h.bx.ctl, h.bx.un, h.bx.lf, h.bx.good⟩, rfl, rfl, h.d2, d1, hst, fun _ => rfl, hty, h.tx.polled h.bx.good⟩
   ·rw [e1]
    refine .poll hst hp rfl rfl rfl rfl hst rfl rfl fun hi => ?_
    obtain ⟨b, k, d, e, hl, -⟩ := h.tx
    have hf : En.sIdle sx = false := by
     cases hs : En.sIdle sx
     ·rfl
     ·exact absurd ((idl_iff sx).1 hs) hi
    show ∃ b k d e, Pc.polled x.tm x.c.poll x.c.keep x.c.silent (En.sIdle sx) = _
    rw [hl, polled_eq h.bx.good, hf]
    exact ⟨_, _, _, _, rfl⟩
  ·rw [next_data h.bx.ctl h.bx.un h.ex hst hgap hp]
   have hpf : x.poll = false := by
    cases hb : x.poll
    ·rfl
    ·exact absurd (.inl hb) hp
   have hun : sx.units < sx.polls := by
    rcases Int.lt_or_le sx.units sx.polls with hl | hl
    ·exact hl
    ·exact absurd (.inr hl) hp
   have hno : (sx.wait = [] ∨ sx.ms <= sx.s) -> Sf.next sx = (sx, 0, "".toUTF8, false, false) := by
    intro hw
    unfold Sf.next
    rw [h.d1.again]
    dsimp only
    cases hw2 : sx.wait with
    |nil => rfl
    |cons v l =>
     rcases hw with hw | hw
     ·rw [hw] at hw2; cases hw2
     ·dsimp only; rw [if_pos hw]
   by_cases hw : sx.wait = [] ∨ sx.ms <= sx.s
   ·rw [hno hw]
    refine ⟨?_, hst, hpf, hun, hw⟩
    show { x with ep := some (sx, rx) } = x
    rw [<- h.ex]
   ·obtain ⟨v, l, hwl⟩ : ∃ v l, sx.wait = v :: l := by
     cases hw2 : sx.wait with
     |nil => exact absurd (.inl hw2) hw
     |cons v l => exact ⟨v, l, rfl⟩
    have hm : sx.s < sx.ms := by
     rcases Int.lt_or_le sx.s sx.ms with hl | hl
     ·exact hl
     ·exact absurd (.inr hl) hw
    obtain ⟨d1, d2, d3⟩ := h.d1.data hwl hm
    rw [d1]
    dsimp only
    rw [if_pos rfl]
    have ht : En.transfer y (sy, ry) (En.numed 8 (sx.s % 16777216) 0 0 v) [] = ({ y with ep := some (sy, (Rf.data ry (sx.s % 16777216) v).1) }, [En.msg 8 v]) := by
     unfold En.transfer En.numed
     dsimp only
     rw [if_pos rfl]
     show (({ y with ep := some (sy, (Rf.data ry (sx.s % 16777216) v).1) }, (Rf.data ry (sx.s % 16777216) v).2.map (En.msg 8)) : X × List Cn.Sig) = _
     rw [d2]
     rfl
    have hsg : ∀ s ∈ [En.msg 8 v], s.kind ≠ 1 := fun s hs => by rw [List.mem_singleton.1 hs]; show (8 : Int) ≠ 1; decide
    obtain ⟨⟨lk, e1⟩, e2⟩ := hears_eq h.ey _ [] rfl ht hsg h.yb.con rfl
    obtain ⟨s1, s2⟩ := hears_sig h.ey _ [] rfl ht hsg
    refine ⟨⟨md _, ⟨Int.le_refl _, by show (0 : Int) < _; decide⟩, by simp, rfl, rfl, rfl⟩, s2.trans h.yb.lf, s1, Sf.fresh1 sx v l, rx, sy, En.took (Rf.data ry (sx.s % 16777216) v).1 64, some v, e2, ?_, ?_⟩
    ·rw [e1]
     have hty := h.ty
     rw [hst] at hty
     exact ⟨⟨h.yb.st, h.yb.con, h.yb.ctl, h.yb.un, h.yb.lf, h.yb.good⟩, ⟨h.bx.st, h.bx.con, h.bx.ctl, h.bx.un, h.bx.lf, h.bx.good⟩, rfl, rfl, h.d2, d3, hst, (fun e => by have := h.ys; rw [show y.stat = true from e] at this; cases this), hty, by
      have := h.tx.data (s' := Sf.fresh1 sx v l) (fun hi => by rw [hi.1] at hwl; cases hwl)
      show T x.c x.tm y.stat x.poll _
      rw [h.ys]
      exact this⟩
    ·rw [e1]
     exact .data v l hst hp hwl hm rfl rfl rfl rfl rfl rfl rfl rfl
 ·rw [next_stat h.bx.ctl h.bx.un h.ex hst, pairs_no h.d2]
  have hx := h.xa hst
  obtain ⟨d1, d2⟩ := h.d2.stat
  have ht : En.transfer y (sy, ry) (En.numed 11 ((Rf.renew rx).R % 16777216) x.asked ((Rf.renew rx).MR % 16777216) Cn.no) [] = ({ y with ep := some (acked sy rx.window, ry), tm := Pc.answered y.tm y.c.silent y.c.idle (En.sIdle (acked sy rx.window)) }, []) := by
   unfold En.transfer En.numed
   dsimp only
   rw [if_neg (by decide), if_neg (by decide), if_pos rfl, hx, show (Rf.renew rx).R = rx.R from rfl, d1]
   rfl
  have hwin := h.d2.rok.win
  obtain ⟨⟨lk, e1⟩, e2⟩ := hears_eq h.ey _ [] rfl ht (fun s hs => by cases hs) h.yb.con rfl
  obtain ⟨s1, s2⟩ := hears_sig h.ey _ [] rfl ht (fun s hs => by cases hs)
  rw [took_no h.d1] at e1
  refine ⟨⟨md _, md _, by simp, rfl, rfl, rfl⟩, s2.trans h.yb.lf, s1, sx, Rf.renew rx, acked sy rx.window, ry, none, e2, ?_, ?_⟩
  ·rw [e1]
   have hty := h.ty
   rw [hst] at hty
   exact ⟨⟨h.yb.st, h.yb.con, h.yb.ctl, h.yb.un, h.yb.lf, h.yb.good⟩, ⟨h.bx.st, h.bx.con, h.bx.ctl, h.bx.un, h.bx.lf, h.bx.good⟩, rfl, rfl, d2, h.d1, rfl, (fun e => by have := h.ys; rw [show y.stat = true from e] at this; cases this), hty.answered h.yb.good rfl rfl, by
    show T x.c x.tm y.stat x.poll _
    rw [h.ys]
    exact h.tx⟩
  ·rw [e1]
   exact .stat rx.window hst hwin.1 rfl rfl rfl rfl rfl rfl rfl
end Pr
namespace Pr
open En (X)

structure St where
 a : X
 b : X
 got : List ByteArray
def half0 (t : St) : St × Bool := match En.next t.a with
 |(a', none) => (⟨a', t.b, t.got⟩, false)
 |(a', some (u, l)) => (⟨a', hears t.b u l, t.got ++ gets (En.receive t.b u l).2⟩, true)
def half1 (t : St) : St × Bool := match En.next t.b with
 |(b', none) => (⟨t.a, b', t.got⟩, false)
 |(b', some (u, l)) => (⟨hears t.a u l, b', t.got⟩, true)
def Fine (x y : X) : Prop := ∃ hi hi2 hj hj2, En.Fit x hi hi2 ∧ hi + 1 - x.c.start % 16777216 <= 4000 ∧ En.Fit y hj hj2 ∧ hj2 + 64 - y.c.start % 16777216 <= 8000000 ∧ ∀ x' u l, En.next x = (x', some (u, l)) -> UB u l ∧ ∀ j, (acc (En.receive y u l).1 ((En.receive y u l).2.take j)).left.length <= 1000000
structure Rnd (t : St) : Prop where
 f0 : Fine t.a t.b
 f1 : Fine (half0 t).1.b (half0 t).1.a
 g : (half0 t).1.got.length <= 100000
def round (t : St) : St := (half1 (half0 t).1).1
def more (t : St) : Bool := (half0 t).2 || (half1 (half0 t).1).2
inductive Pass : Nat -> St -> St -> Prop
 |stop {t : St} (h : Rnd t) (he : more t = false) : Pass 0 t (round t)
 |go {n : Nat} {t t' : St} (h : Rnd t) (he : more t = true) (hp : Pass n (round t) t') : Pass (n + 1) t t'

theorem PI.fine {lo N : Int} {x y : X} {sx sy : Sf.S} {rx ry : Rf.S} (h : PI lo N x y sx rx sy ry) (hN : N <= 3999) : Fine x y := by
 obtain ⟨f1, f2⟩ := fit_of h
 have h0 := h.d1.n0
 refine ⟨_, _, _, _, f1, by rw [h.bx.st]; omega, f2, by rw [h.yb.st]; omega, fun x' u l he => ?_⟩
 have hh := half_ok h
 rw [he] at hh
 obtain ⟨h1, h2, h3, -⟩ := hh
 refine ⟨h1, fun j => ?_⟩
 rw [acc_no _ _ (fun s hs => h3 s (List.take_subset j _ hs)), h2]
 simp

def due (s : Sf.S) (poll : Bool) : Prop := poll = true ∨ s.polls <= s.units
instance (s : Sf.S) (poll : Bool) : Decidable (due s poll) := by unfold due; exact inferInstance
def q (s : Sf.S) (poll : Bool) : Nat := 4 * s.wait.length + if due s poll then 2 else 0
def n1 (b : Bool) : Nat := if b then 1 else 0
def M (x y : X) (sx sy : Sf.S) : Nat := q sx x.poll + q sy y.poll + n1 x.stat + n1 y.stat
theorem M_comm (x y : X) (sx sy : Sf.S) : M x y sx sy = M y x sy sx := by unfold M; omega
theorem Mv.less {x y x' y' : X} {sx sy sx' sy' : Sf.S} {o : Option ByteArray} (h : Mv x y x' y' sx sy sx' sy' o) (hy : y.stat = false) (hp : 1 <= sx.polls) : M x' y' sx' sy' < M x y sx sy := by
 cases h with
 |stat m h hm h1 h2 h3 h4 h5 h6 h7 =>
  subst h1 h2
  unfold M
  rw [h3, h4, h5, h6, h]
  have : q (acked sy m) y.poll = q sy y.poll := rfl
  rw [this]
  show _ + _ + 0 + _ < _ + _ + 1 + _
  omega
 |poll h hq h1 h2 h3 h4 h5 h6 h7 h8 =>
  subst h1 h2
  unfold M
  rw [h3, h4, h5, h6, h, hy]
  have e1 : q (Sf.poll sx) false = 4 * sx.wait.length := by
   unfold q
   rw [if_neg]
   ·rfl
   ·rintro (e | e)
    ·cases e
    ·have e : sx.polls <= 0 := e
     omega
  have e2 : q sx x.poll = 4 * sx.wait.length + 2 := by unfold q; rw [if_pos (show due sx x.poll from hq)]
  rw [e1, e2]
  show _ + _ + 0 + 1 < _ + _ + 0 + 0
  omega
 |data v l h hq hw hm h1 h2 h3 h4 h5 h6 h7 h8 =>
  subst h1 h2
  unfold M
  rw [h3, h4, h5, h6]
  have e1 : q (Sf.fresh1 sx v l) x.poll <= 4 * l.length + 2 := by
   unfold q
   show 4 * l.length + _ <= _
   split <;> omega
  have e2 : 4 * (l.length + 1) <= q sx x.poll := by
   unfold q
   rw [hw, List.length_cons]
   omega
  omega

def Stuck (s : Sf.S) : Prop := s.units < s.polls ∧ (s.wait = [] ∨ s.ms <= s.s)
structure J (s0 : Sf.S) (tm0 : List Int) (md : Nat) (g0 : List ByteArray) (a b : X) (got : List ByteArray) (sa sb : Sf.S) : Prop where
 cons : got ++ sa.wait = g0 ++ s0.wait
 num : sa.s + (sa.wait.length : Int) = s0.s + (s0.wait.length : Int)
 up : s0.s <= sa.s
 ib : Idl sb
 q0 : sa.polls = s0.polls ∧ sa.most = s0.most
 still : md = 1 -> Stuck s0 ∧ sa = s0 ∧ a.tm = tm0 ∧ a.poll = false ∧ b.stat = false
 z : md = 2 -> (a.poll = true ∧ sa.s = s0.s ∧ sa.wait = s0.wait) ∨ (b.stat = true ∧ sa.s = s0.s ∧ sa.wait = s0.wait) ∨ (s0.s + 1 <= sa.ms ∧ (s0.wait = [] -> Idl sa))
section
variable {s0 : Sf.S} {tm0 : List Int} {m : Nat} {g0 got : List ByteArray} {a b a' b' : X} {sa sb sa' sb' : Sf.S} {o : Option ByteArray}
theorem J.half0 (h : J s0 tm0 m g0 a b got sa sb) (hv : Mv a b a' b' sa sb sa' sb' o) (hb : b.stat = false) : J s0 tm0 m g0 a' b' (got ++ o.toList) sa' sb' := by
 cases hv with
 |stat m h0 hm h1 h2 h3 h4 h5 h6 h7 =>
  subst h1 h2
  refine ⟨by rw [Option.toList_none, List.append_nil]; exact h.cons, h.num, h.up, ⟨h.ib.1, rfl⟩, h.q0, fun e => ?_, fun e => ?_⟩
  ·obtain ⟨a1, a2, a3, a4, a5⟩ := h.still e
   exact ⟨a1, a2, h7.trans a3, h3.trans a4, h6.trans a5⟩
  ·rcases h.z e with ⟨e1, e2⟩ | ⟨e1, e2⟩ | e1
   ·exact .inl ⟨h3.trans e1, e2⟩
   ·rw [hb] at e1; cases e1
   ·exact .inr (.inr e1)
 |poll h0 hq h1 h2 h3 h4 h5 h6 h7 h8 =>
  subst h1 h2
  refine ⟨by rw [Option.toList_none, List.append_nil]; exact h.cons, h.num, h.up, h.ib, h.q0, fun e => ?_, fun e => ?_⟩
  ·obtain ⟨a1, a2, a3, a4, a5⟩ := h.still e
   rcases hq with e | e
   ·rw [a4] at e; cases e
   ·rw [a2] at e; have := a1.1; omega
  ·rcases h.z e with ⟨e1, e2⟩ | ⟨e1, e2⟩ | e1
   ·exact .inr (.inl ⟨h6, e2⟩)
   ·rw [hb] at e1; cases e1
   ·exact .inr (.inr e1)
 |data v l h0 hq hw hm h1 h2 h3 h4 h5 h6 h7 h8 =>
  subst h1 h2
  have hc := h.cons
  have hn := h.num
  rw [hw] at hc hn
  rw [List.length_cons] at hn
  refine ⟨?_, ?_, ?_, h.ib, h.q0, fun e => ?_, fun e => ?_⟩
  ·show got ++ [v] ++ l = _
   rw [List.append_assoc]
   exact hc
  ·show sa.s + 1 + (l.length : Int) = _
   omega
  ·have := h.up
   show s0.s <= sa.s + 1
   omega
  ·obtain ⟨a1, a2, a3, a4, a5⟩ := h.still e
   rw [a2] at hw hm
   rcases a1.2 with e | e
   ·rw [e] at hw; cases hw
   ·omega
  ·rcases h.z e with ⟨e1, e2⟩ | ⟨e1, e2⟩ | ⟨e1, e2⟩
   ·exact absurd (.inl e1) hq
   ·rw [hb] at e1; cases e1
   ·refine .inr (.inr ⟨e1, fun e => ?_⟩)
    have := (e2 e).1
    rw [hw] at this
    cases this
theorem J.half1 (h : J s0 tm0 m g0 a b got sa sb) (hv : Mv b a b' a' sb sa sb' sa' o) : J s0 tm0 m g0 a' b' got sa' sb' := by
 cases hv with
 |stat k h0 hm h1 h2 h3 h4 h5 h6 h7 =>
  subst h1 h2
  refine ⟨h.cons, h.num, h.up, h.ib, h.q0, fun e => ?_, fun e => ?_⟩
  ·obtain ⟨a1, a2, a3, a4, a5⟩ := h.still e
   rw [a5] at h0; cases h0
  ·have hu := h.up
   have z3 : s0.s + 1 <= (acked sa k).ms := by show s0.s + 1 <= sa.s + k; omega
   rcases h.z e with ⟨e1, e2⟩ | ⟨e1, e2, e3⟩ | ⟨e1, e2⟩
   ·exact .inl ⟨h4.trans e1, e2⟩
   ·exact .inr (.inr ⟨z3, fun e => ⟨e3.trans e, rfl⟩⟩)
   ·exact .inr (.inr ⟨z3, fun e => ⟨(e2 e).1, rfl⟩⟩)
 |poll h0 hq h1 h2 h3 h4 h5 h6 h7 h8 =>
  subst h1 h2
  refine ⟨h.cons, h.num, h.up, h.ib, h.q0, fun e => ?_, fun e => ?_⟩
  ·obtain ⟨a1, a2, a3, a4, a5⟩ := h.still e
   exact ⟨a1, a2, h7.trans a3, h4.trans a4, h5⟩
  ·rcases h.z e with ⟨e1, e2⟩ | ⟨e1, e2⟩ | e1
   ·exact .inl ⟨h4.trans e1, e2⟩
   ·rw [h0] at e1; cases e1
   ·exact .inr (.inr e1)
 |data v l h0 hq hw hm h1 h2 h3 h4 h5 h6 h7 h8 =>
  rw [h.ib.1] at hw
  cases hw
end
structure Rest (lo N : Int) (a b : X) (sa : Sf.S) (ra : Rf.S) (sb : Sf.S) (rb : Rf.S) : Prop where
 pi : PI lo N a b sa ra sb rb
 ast : a.stat = false
 ap : a.poll = false
 bp : b.poll = false
 su : Stuck sa
theorem PI.swap {lo N : Int} {x y : X} {sx sy : Sf.S} {rx ry : Rf.S} (h : PI lo N x y sx rx sy ry) (hx : x.stat = false) : PI lo N y x sy ry sx rx :=
 ⟨h.yb, h.bx, h.ey, h.ex, h.d2, h.d1, hx, (fun e => by rw [h.ys] at e; cases e), (by have := h.ty; rw [hx] at this; exact this), (by rw [h.ys]; exact h.tx)⟩
theorem half0_ok {lo N : Int} {s0 : Sf.S} {tm0 : List Int} {md : Nat} {g0 got : List ByteArray} {a b : X} {sa sb : Sf.S} {ra rb : Rf.S} (hp : PI lo N a b sa ra sb rb) (hj : J s0 tm0 md g0 a b got sa sb) :
  ∃ a1 b1 got1 sa1 ra1 sb1 rb1 z, half0 ⟨a, b, got⟩ = (⟨a1, b1, got1⟩, z) ∧ PI lo N b1 a1 sb1 rb1 sa1 ra1 ∧ J s0 tm0 md g0 a1 b1 got1 sa1 sb1 ∧ (z = true -> M a1 b1 sa1 sb1 < M a b sa sb) ∧ (z = false -> (a1 = a ∧ b1 = b ∧ got1 = got) ∧ (sa1 = sa ∧ ra1 = ra ∧ sb1 = sb ∧ rb1 = rb) ∧ a.stat = false ∧ a.poll = false ∧ Stuck sa) := by
 have hh := half_ok hp
 cases hn : En.next a with
 |mk a1 o =>
  rw [hn] at hh
  have h0 : half0 ⟨a, b, got⟩ = match (a1, o) with
   |(a', none) => (⟨a', b, got⟩, false)
   |(a', some (u, l)) => (⟨a', hears b u l, got ++ gets (En.receive b u l).2⟩, true) := by unfold half0; rw [hn]
  cases o with
  |none =>
   obtain ⟨h1, h2, h3, h4, h5⟩ := hh
   subst h1
   exact ⟨a1, b, got, sa, ra, sb, rb, false, h0, hp.swap h2, hj, fun e => (by cases e), fun _ => ⟨⟨rfl, rfl, rfl⟩, ⟨rfl, rfl, rfl, rfl⟩, h2, h3, h4, h5⟩⟩
  |some p =>
   obtain ⟨u, l⟩ := p
   obtain ⟨h1, h2, h3, sx', rx', sy', ry', o, h4, h5, h6⟩ := hh
   refine ⟨a1, hears b u l, got ++ o.toList, sx', rx', sy', ry', true, ?_, h5, hj.half0 h6 hp.ys, fun _ => ?_, fun e => (by cases e)⟩
   ·rw [h0, <- h4]
   ·exact h6.less hp.ys hp.d1.ok.polls.1
theorem half1_ok {lo N : Int} {s0 : Sf.S} {tm0 : List Int} {md : Nat} {g0 got : List ByteArray} {a b : X} {sa sb : Sf.S} {ra rb : Rf.S} (hp : PI lo N b a sb rb sa ra) (hj : J s0 tm0 md g0 a b got sa sb) :
  ∃ a1 b1 sa1 ra1 sb1 rb1 z, half1 ⟨a, b, got⟩ = (⟨a1, b1, got⟩, z) ∧ PI lo N a1 b1 sa1 ra1 sb1 rb1 ∧ J s0 tm0 md g0 a1 b1 got sa1 sb1 ∧ (z = true -> M a1 b1 sa1 sb1 < M a b sa sb) ∧ (z = false -> (a1 = a ∧ b1 = b) ∧ (sa1 = sa ∧ ra1 = ra ∧ sb1 = sb ∧ rb1 = rb) ∧ b.stat = false ∧ b.poll = false) := by
 have hh := half_ok hp
 cases hn : En.next b with
 |mk b1 o =>
  rw [hn] at hh
  have h0 : half1 ⟨a, b, got⟩ = match (b1, o) with
   |(b', none) => (⟨a, b', got⟩, false)
   |(b', some (u, l)) => (⟨hears a u l, b', got⟩, true) := by unfold half1; rw [hn]
  cases o with
  |none =>
   obtain ⟨h1, h2, h3, h4, h5⟩ := hh
   subst h1
   exact ⟨a, b1, sa, ra, sb, rb, false, h0, hp.swap h2, hj, fun e => (by cases e), fun _ => ⟨⟨rfl, rfl⟩, ⟨rfl, rfl, rfl, rfl⟩, h2, h3⟩⟩
  |some p =>
   obtain ⟨u, l⟩ := p
   obtain ⟨h1, h2, h3, sx', rx', sy', ry', o, h4, h5, h6⟩ := hh
   refine ⟨hears a u l, b1, sy', ry', sx', rx', true, h0, h5, hj.half1 h6, fun _ => ?_, fun e => (by cases e)⟩
   rw [M_comm a b, M_comm (hears a u l) b1]
   exact h6.less hp.ys hp.d1.ok.polls.1
theorem pass_ok {lo N : Int} (hN : N <= 3999) {s0 : Sf.S} {tm0 : List Int} {md : Nat} {g0 : List ByteArray} (hg : g0.length + s0.wait.length <= 100000) : ∀ (k : Nat) {a b : X} {got : List ByteArray} {sa sb : Sf.S} {ra rb : Rf.S}, PI lo N a b sa ra sb rb -> J s0 tm0 md g0 a b got sa sb -> M a b sa sb < k →
  ∃ n a' b' got' sa' ra' sb' rb', Pass n ⟨a, b, got⟩ ⟨a', b', got'⟩ ∧ Rest lo N a' b' sa' ra' sb' rb' ∧ J s0 tm0 md g0 a' b' got' sa' sb' := by
 intro k
 induction k with
 |zero => intro a b got sa sb ra rb _ _ h; exact absurd h (Nat.not_lt_zero _)
 |succ k ih =>
  intro a b got sa sb ra rb hp hj hm
  obtain ⟨a1, b1, got1, sa1, ra1, sb1, rb1, z, e1, p1, j1, m1, r1⟩ := half0_ok hp hj
  obtain ⟨a2, b2, sa2, ra2, sb2, rb2, z2, e2, p2, j2, m2, r2⟩ := half1_ok p1 j1
  have hlen := congrArg List.length j1.cons
  rw [List.length_append, List.length_append] at hlen
  have hr : Rnd ⟨a, b, got⟩ := ⟨hp.fine hN, by rw [e1]; exact p1.fine hN, by rw [e1]; show got1.length <= _; omega⟩
  have hround : round ⟨a, b, got⟩ = ⟨a2, b2, got1⟩ := by unfold round; rw [e1]; show (half1 ⟨a1, b1, got1⟩).1 = _; rw [e2]
  have hmore : more ⟨a, b, got⟩ = (z || z2) := by unfold more; rw [e1]; show (z || (half1 ⟨a1, b1, got1⟩).2) = _; rw [e2]
  have go : (z || z2) = true -> M a2 b2 sa2 sb2 < M a b sa sb -> ∃ n a' b' got' sa' ra' sb' rb', Pass n ⟨a, b, got⟩ ⟨a', b', got'⟩ ∧ Rest lo N a' b' sa' ra' sb' rb' ∧ J s0 tm0 md g0 a' b' got' sa' sb' := fun hz hlt => by
   obtain ⟨n, a', b', got', sa', ra', sb', rb', i1, i2, i3⟩ := ih p2 j2 (by omega)
   rw [<- hround] at i1
   exact ⟨n + 1, a', b', got', sa', ra', sb', rb', .go hr (hmore.trans hz) i1, i2, i3⟩
  cases z
  ·obtain ⟨⟨rfl, rfl, rfl⟩, ⟨rfl, rfl, rfl, rfl⟩, q1, q2, q3⟩ := r1 rfl
   cases z2
   ·obtain ⟨⟨rfl, rfl⟩, ⟨rfl, rfl, rfl, rfl⟩, q4, q5⟩ := r2 rfl
    refine ⟨0, a2, b2, got1, sa2, ra2, sb2, rb2, ?_, ⟨p2, q1, q2, q5, q3⟩, j2⟩
    have := Pass.stop hr hmore
    rw [hround] at this
    exact this
   ·exact go rfl (m2 rfl)
  ·have h1 := m1 rfl
   cases z2
   ·obtain ⟨⟨rfl, rfl⟩, ⟨rfl, rfl, rfl, rfl⟩, q4, q5⟩ := r2 rfl
    exact go rfl h1
   ·have h2 := m2 rfl
    exact go rfl (by omega)
end Pr
namespace Pr
open En (X)
theorem askE (c : Nd.C) : En.request (En.new c) 1 Cn.no 0 = (⟨c, ⟨max 1 (min c.most 16), (c.start + c.window) % 16777216 % 16777216, 2, 1, -1, 1, (c.start + c.window) % 16777216 % 16777216, Cn.no⟩, Tm.start [0, 0, 0, 0, 0] 0 c.cc, [⟨1, 1, (c.start + c.window) % 16777216 % 16777216, 0, 0, none, 0, 0, false, Cn.no⟩], [], [], false, false, 0, false, none⟩, [], 0) := by
 kernel_rfl
theorem hear1 (c : Nd.C) (n : Int) : En.receive (En.new c) ⟨1, 1, n, 0, 0, none, 0, 0, false, Cn.no⟩ [] = (⟨c, ⟨max 1 (min c.most 16), (c.start + c.window) % 16777216 % 16777216, 3, 0, 1, 0, n, Cn.no⟩, [0, 0, 0, 0, 0], [], [], [], false, false, 0, false, none⟩, [⟨1, Cn.no, false, 0, 0⟩]) := by
 kernel_rfl
theorem hear2 (c : Nd.C) (n : Int) : hears (En.new c) ⟨1, 1, n, 0, 0, none, 0, 0, false, Cn.no⟩ [] = ⟨c, ⟨max 1 (min c.most 16), (c.start + c.window) % 16777216 % 16777216, 10, 0, 1, 0, n, Cn.no⟩, Pc.begin_ (Tm.stop [0, 0, 0, 0, 0] 0) c.poll c.silent, [⟨2, 1, (c.start + c.window) % 16777216 % 16777216, 0, 0, none, 0, 0, false, Cn.no⟩], [], [], false, false, 0, En.lack (En.take (En.begun (En.new c) n) 64), some ((En.epoch c n).1, En.took (En.epoch c n).2 64)⟩ := by
 kernel_rfl
theorem hear3a (c : Nd.C) (k cr ms n : Int) (tm : List Int) : En.receive ⟨c, ⟨k, cr, 2, 1, -1, 1, ms, Cn.no⟩, tm, [], [], [], false, false, 0, false, none⟩ ⟨2, 1, n, 0, 0, none, 0, 0, false, Cn.no⟩ [] = (⟨c, ⟨k, cr, 10, 1, -1, 1, n, Cn.no⟩, Pc.begin_ (Tm.stop tm 0) c.poll c.silent, [], [], [], false, false, 0, En.lack (En.begun (En.new c) n), some (En.epoch c n)⟩, (En.credit ⟨c, ⟨k, cr, 10, 1, -1, 1, n, Cn.no⟩, Pc.begin_ (Tm.stop tm 0) c.poll c.silent, [], [], [], false, false, 0, false, some (En.epoch c n)⟩ [⟨2, Cn.no, false, 0, 0⟩]).2) := by
 kernel_rfl
theorem hear3 (c : Nd.C) (k cr ms n : Int) (tm : List Int) : ∃ lk, hears ⟨c, ⟨k, cr, 2, 1, -1, 1, ms, Cn.no⟩, tm, [], [], [], false, false, 0, false, none⟩ ⟨2, 1, n, 0, 0, none, 0, 0, false, Cn.no⟩ [] = ⟨c, ⟨k, cr, 10, 1, -1, 1, n, Cn.no⟩, Pc.begin_ (Tm.stop tm 0) c.poll c.silent, [], [], [], false, false, 0, lk, some ((En.epoch c n).1, En.took (En.epoch c n).2 64)⟩ := by
 unfold hears
 rw [hear3a]
 rw [acc_no _ _ (credit_sig _ _ (fun s hs => by rw [List.mem_singleton.1 hs]; show (2 : Int) ≠ 1; decide)).1]
 exact take_eq rfl rfl
structure CG (c : Nd.C) : Prop where
 good : Good c
 win : 1 <= c.window ∧ c.window <= 64
theorem begin_eq {c : Nd.C} (hG : Good c) (a b k d e : Int) : Pc.begin_ [a, b, k, d, e] c.poll c.silent = [a, c.poll, 0, c.silent, 0] := by
 simp [Pc.begin_, Pc.end_, Pc.watch, Pc.stops, Tm.stop, Tm.start, Tm.left, clamp41 hG.2.1, clamp41 hG.2.2.2.1]
theorem T.first {c : Nd.C} (hG : Good c) (x : Int) (i : Prop) : T c (Pc.begin_ (Tm.stop [x, 0, 0, 0, 0] 0) c.poll c.silent) false false i := by
 have e : Tm.stop [x, 0, 0, 0, 0] 0 = [0, 0, 0, 0, 0] := rfl
 rw [e, begin_eq hG]
 obtain ⟨⟨a0, b0⟩, ⟨a1, b1⟩, ⟨a2, b2⟩, ⟨a3, b3⟩, ⟨a4, b4⟩, h13, h23⟩ := id hG
 refine ⟨_, _, _, _, rfl, by omega, by omega, by omega, by omega, ?_⟩
 rw [if_neg (by decide)]
 exact .inr (.inl ⟨rfl, rfl, by omega, by omega, Int.le_refl _⟩)
theorem took0 (c : Nd.C) (n : Int) : En.took (En.epoch c n).2 64 = (En.epoch c n).2 := rfl
theorem Dir.first {c d : Nd.C} (hd : CG d) (hs : d.start % 16777216 = c.start % 16777216) : Dir (c.start % 16777216) 0 (En.epoch c ((d.start + d.window) % 16777216 % 16777216)).1 (En.epoch d 0).2 false ∧ ∀ m, (En.epoch d m).2 = (En.epoch d 0).2 := by
 have hw := hd.win
 have bl : c.start % 16777216 <= c.start % 16777216 + 0 := by omega
 have ok := (Sf.Ok.new c.start c.queue c.polls (c.start % 16777216 + 0) bl (by omega)).opn ((d.start + d.window) % 16777216 % 16777216)
 have rok := Rf.Ok.new d.start d.window (c.start % 16777216 + 0) (by omega) (by omega)
 rw [hs] at rok
 have e : Sf.opn (Sf.new c.start c.queue c.polls) ((d.start + d.window) % 16777216 % 16777216) = { Sf.new c.start c.queue c.polls with ms := c.start % 16777216 + d.window } := by
  have ha : (Sf.new c.start c.queue c.polls).a = c.start % 16777216 := rfl
  have hm : (Sf.new c.start c.queue c.polls).ms = c.start % 16777216 := rfl
  have e1 : Sf.at_ (Sf.new c.start c.queue c.polls) ((d.start + d.window) % 16777216 % 16777216) = c.start % 16777216 + d.window := by
   unfold Sf.at_
   rw [ha]
   omega
  unfold Sf.opn
  rw [e1, if_pos ⟨by rw [ha]; omega, by rw [hm]; omega⟩]
 refine ⟨⟨ok, rok, ?_, ?_, rfl, rfl, rfl, ?_, ?_, ?_, ?_⟩, fun _ => rfl⟩
 ·show d.start % 16777216 = (Sf.opn (Sf.new c.start c.queue c.polls) _).s
  rw [e]; exact hs
 ·show d.start % 16777216 = (Sf.opn (Sf.new c.start c.queue c.polls) _).s
  rw [e]; exact hs
 ·show (Sf.opn (Sf.new c.start c.queue c.polls) _).ms <= d.start % 16777216 + max 1 (min d.window 64)
  rw [e]
  show c.start % 16777216 + d.window <= _
  omega
 ·show (Sf.opn (Sf.new c.start c.queue c.polls) _).again = []
  rw [e]; rfl
 ·show (Sf.opn (Sf.new c.start c.queue c.polls) _).ps + (Sf.opn (Sf.new c.start c.queue c.polls) _).units + ((Sf.opn (Sf.new c.start c.queue c.polls) _).wait.length : Int) + b1 false <= _
  rw [e]
  show c.start % 16777216 + 0 + ((([] : List ByteArray).length : Nat) : Int) + 0 <= _
  simp
 ·show (Sf.opn (Sf.new c.start c.queue c.polls) _).s + ((Sf.opn (Sf.new c.start c.queue c.polls) _).wait.length : Int) <= _
  rw [e]
  show c.start % 16777216 + ((([] : List ByteArray).length : Nat) : Int) <= _
  simp
theorem epoch_ms {c d : Nd.C} (hd : CG d) (hs : d.start % 16777216 = c.start % 16777216) : (En.epoch c ((d.start + d.window) % 16777216 % 16777216)).1.ms % 16777216 = (d.start + d.window) % 16777216 ∧ (En.epoch c ((d.start + d.window) % 16777216 % 16777216)).1.s = c.start % 16777216 := by
 have hw := hd.win
 have e1 : Sf.at_ (Sf.new c.start c.queue c.polls) ((d.start + d.window) % 16777216 % 16777216) = c.start % 16777216 + d.window := by
  unfold Sf.at_
  show c.start % 16777216 + _ % _ = _
  have ha : (Sf.new c.start c.queue c.polls).a = c.start % 16777216 := rfl
  rw [ha]
  omega
 have e : (En.epoch c ((d.start + d.window) % 16777216 % 16777216)).1 = { Sf.new c.start c.queue c.polls with ms := c.start % 16777216 + d.window } := by
  show Sf.opn _ _ = _
  have ha : (Sf.new c.start c.queue c.polls).a = c.start % 16777216 := rfl
  have hm : (Sf.new c.start c.queue c.polls).ms = c.start % 16777216 := rfl
  unfold Sf.opn
  rw [e1, if_pos ⟨by rw [ha]; omega, by rw [hm]; omega⟩]
 rw [e]
 constructor
 ·show (c.start % 16777216 + d.window) % 16777216 = _; omega
 ·rfl
structure Calm (lo N : Int) (a b : X) (sa : Sf.S) (ra : Rf.S) (sb : Sf.S) (rb : Rf.S) : Prop where
 pi : PI lo N a b sa ra sb rb
 ast : a.stat = false
 ap : a.poll = false
 bp : b.poll = false
 ib : Idl sb
theorem hear1l (d : Nd.C) (k cr n : Int) : (En.request ⟨d, ⟨k, cr, 3, 0, 1, 0, n, Cn.no⟩, [0, 0, 0, 0, 0], [], [], [], false, false, 0, false, none⟩ 2 Cn.no 0).1.left = [] := by
 kernel_rfl
def aAsk (c : Nd.C) : X := (En.request (En.new c) 1 Cn.no 0).1
theorem fit_new {c : Nd.C} : En.Fit (En.new c) (c.start % 16777216) (c.start % 16777216) :=
 ⟨List.nodup_nil, fun u hu => (by cases hu), by show c.start % 16777216 <= c.start % 16777216 ∧ _ - c.start % 16777216 <= _; omega, by show c.start % 16777216 <= c.start % 16777216 ∧ _ - c.start % 16777216 <= _; omega, fun e he => (by cases he), rfl⟩
theorem first {c d : Nd.C} (hc : CG c) (hd : CG d) (hs : d.start % 16777216 = c.start % 16777216) :
  Rnd ⟨aAsk c, En.new d, []⟩ ∧ more ⟨aAsk c, En.new d, []⟩ = true ∧ ∃ a b sa ra sb rb, round ⟨aAsk c, En.new d, []⟩ = ⟨a, b, []⟩ ∧ Calm (c.start % 16777216) 0 a b sa ra sb rb ∧ sa.wait = [] ∧ a.conn.state = 10 ∧ b.conn.state = 10 ∧ sa.ms % 16777216 = (d.start + d.window) % 16777216 := by
 obtain ⟨n1, hn1⟩ := xq ((c.start + c.window) % 16777216 % 16777216)
 obtain ⟨n2, hn2⟩ := xq ((d.start + d.window) % 16777216 % 16777216)
 have bn1 : 0 <= n1 ∧ n1 < 16777216 := by omega
 have bn2 : 0 <= n2 ∧ n2 < 16777216 := by omega
 have ha0 := askE c
 rw [<- hn1] at ha0
 have ha : aAsk c = ⟨c, ⟨max 1 (min c.most 16), n1, 2, 1, -1, 1, n1, Cn.no⟩, Tm.start [0, 0, 0, 0, 0] 0 c.cc, [⟨1, 1, n1, 0, 0, none, 0, 0, false, Cn.no⟩], [], [], false, false, 0, false, none⟩ := by unfold aAsk; rw [ha0]
 have hb := hear2 d n1
 rw [<- hn2, took0] at hb
 obtain ⟨b1, hb1⟩ := xq (hears (En.new d) ⟨1, 1, n1, 0, 0, none, 0, 0, false, Cn.no⟩ [])
 rw [<- hb1] at hb
 obtain ⟨a1, ha1⟩ : ∃ a1 : X, a1 = ⟨c, ⟨max 1 (min c.most 16), n1, 2, 1, -1, 1, n1, Cn.no⟩, Tm.start [0, 0, 0, 0, 0] 0 c.cc, [], [], [], false, false, 0, false, none⟩ := ⟨_, rfl⟩
 have hr1 := hear1 d n1
 have h0 : half0 ⟨aAsk c, En.new d, []⟩ = (⟨a1, b1, []⟩, true) := by
  rw [ha, hb1, ha1]
  have e : (gets (En.receive (En.new d) ⟨1, 1, n1, 0, 0, none, 0, 0, false, Cn.no⟩ []).2) = [] := by rw [hr1]; rfl
  unfold half0
  have e2 : ∀ x : X, x = ⟨c, ⟨max 1 (min c.most 16), n1, 2, 1, -1, 1, n1, Cn.no⟩, Tm.start [0, 0, 0, 0, 0] 0 c.cc, [⟨1, 1, n1, 0, 0, none, 0, 0, false, Cn.no⟩], [], [], false, false, 0, false, none⟩ -> En.next x = ({ x with ctl := [] }, some (⟨1, 1, n1, 0, 0, none, 0, 0, false, Cn.no⟩, [])) := fun x hx => by rw [hx]; rfl
  rw [e2 _ rfl]
  dsimp only
  rw [e, List.append_nil]
 obtain ⟨lk, h3⟩ := hear3 c (max 1 (min c.most 16)) n1 n1 n2 (Tm.start [0, 0, 0, 0, 0] 0 c.cc)
 rw [<- ha1, took0] at h3
 obtain ⟨b2, hb2⟩ : ∃ b2 : X, b2 = { b1 with ctl := [] } := ⟨_, rfl⟩
 obtain ⟨a2, ha2⟩ := xq (hears a1 ⟨2, 1, n2, 0, 0, none, 0, 0, false, Cn.no⟩ [])
 rw [<- ha2] at h3
 have hn : En.next b1 = (b2, some (⟨2, 1, n2, 0, 0, none, 0, 0, false, Cn.no⟩, [])) := by rw [hb2, hb]; rfl
 have h1 : half1 ⟨a1, b1, []⟩ = (⟨a2, b2, []⟩, true) := by
  unfold half1
  rw [hn, ha2]
 obtain ⟨d1, e1⟩ := Dir.first (c := c) (d := d) hd hs
 obtain ⟨d2, e2⟩ := Dir.first (c := d) (d := c) hc hs.symm
 obtain ⟨m1, m2⟩ := epoch_ms (c := c) (d := d) hd hs
 rw [<- hn2] at d1 m1
 rw [<- hn1] at d2
 have hb2' : b2 = ⟨d, ⟨max 1 (min d.most 16), n2, 10, 0, 1, 0, n1, Cn.no⟩, Pc.begin_ (Tm.stop [0, 0, 0, 0, 0] 0) d.poll d.silent, [], [], [], false, false, 0, En.lack (En.take (En.begun (En.new d) n1) 64), some ((En.epoch d n1).1, (En.epoch d n1).2)⟩ := by rw [hb2, hb]
 have hp : PI (c.start % 16777216) 0 a2 b2 (En.epoch c n2).1 (En.epoch c n2).2 (En.epoch d n1).1 (En.epoch d n1).2 := by
  rw [hb2', h3]
  refine ⟨⟨rfl, rfl, rfl, rfl, rfl, hc.good⟩, ⟨hs, rfl, rfl, rfl, rfl, hd.good⟩, rfl, rfl, by rw [e1 n1]; exact d1, by rw [e2 n2, <- hs]; exact d2, rfl, fun e => (by cases e), T.first hc.good (max 1 (min c.cc 1048576)) _, T.first hd.good 0 _⟩
 have hidl : Idl (En.epoch d n1).1 := by
  show Idl (Sf.opn (Sf.new d.start d.queue d.polls) n1)
  unfold Sf.opn
  split <;> exact ⟨rfl, rfl⟩
 have hwa : (En.epoch c n2).1.wait = [] := by
  show (Sf.opn (Sf.new c.start c.queue c.polls) n2).wait = []
  unfold Sf.opn
  split <;> rfl
 have f0 : Fine (aAsk c) (En.new d) := by
  refine ⟨c.start % 16777216, c.start % 16777216, d.start % 16777216, d.start % 16777216, ?_, ?_, fit_new, ?_, ?_⟩
  ·rw [ha]
   exact ⟨by simp, fun u hu => (by rw [List.mem_singleton.1 hu]; show (1 : Int) <= 1 ∧ (1 : Int) <= 15; decide), by show c.start % 16777216 <= c.start % 16777216 ∧ _ - c.start % 16777216 <= _; omega, by show c.start % 16777216 <= c.start % 16777216 ∧ _ - c.start % 16777216 <= _; omega, fun e he => (by cases he), rfl⟩
  ·rw [ha]; show c.start % 16777216 + 1 - c.start % 16777216 <= 4000; omega
  ·show d.start % 16777216 + 64 - d.start % 16777216 <= 8000000; omega
  ·intro x' u l he
   rw [ha] at he
   have he : (_, some (_, _)) = (x', some (u, l)) := he
   simp only [Prod.mk.injEq, Option.some.injEq] at he
   obtain ⟨-, rfl, rfl⟩ := he
   refine ⟨⟨bn1, ⟨Int.le_refl _, by show (0 : Int) < 16777216; decide⟩, by simp, rfl, rfl, rfl⟩, fun j => ?_⟩
   rw [hr1]
   cases j with
   |zero => show ([] : List ByteArray).length <= _; simp
   |succ j =>
    have e : acc ⟨d, ⟨max 1 (min d.most 16), (d.start + d.window) % 16777216 % 16777216, 3, 0, 1, 0, n1, Cn.no⟩, [0, 0, 0, 0, 0], [], [], [], false, false, 0, false, none⟩ ([⟨1, Cn.no, false, 0, 0⟩] : List Cn.Sig) = (En.request ⟨d, ⟨max 1 (min d.most 16), (d.start + d.window) % 16777216 % 16777216, 3, 0, 1, 0, n1, Cn.no⟩, [0, 0, 0, 0, 0], [], [], [], false, false, 0, false, none⟩ 2 Cn.no 0).1 := rfl
    rw [List.take_succ_cons, List.take_nil]
    dsimp only
    rw [e, hear1l]
    simp
 have f1 : Fine b1 a1 := by
  refine ⟨d.start % 16777216 + 0, d.start % 16777216 + 0, c.start % 16777216, c.start % 16777216, ?_, ?_, ?_, ?_, ?_⟩
  ·rw [hb]
   refine ⟨by simp, fun u hu => (by rw [List.mem_singleton.1 hu]; show (1 : Int) <= 2 ∧ (2 : Int) <= 15; decide), by show d.start % 16777216 <= d.start % 16777216 + 0 ∧ d.start % 16777216 + 0 - d.start % 16777216 <= _; omega, by show d.start % 16777216 <= d.start % 16777216 + 0 ∧ d.start % 16777216 + 0 - d.start % 16777216 <= _; omega, fun e he => ?_, rfl⟩
   have he : some ((En.epoch d n1).1, (En.epoch d n1).2) = some e := he
   injection he with he
   subst he
   refine ⟨d2.ok, ?_⟩
   have := d1.rok
   rw [<- e1 n1, <- hs] at this
   exact this
  ·rw [hb]; show d.start % 16777216 + 0 + 1 - d.start % 16777216 <= 4000; omega
  ·rw [ha1]
   exact ⟨by simp, fun u hu => (by cases hu), by show c.start % 16777216 <= c.start % 16777216 ∧ _ - c.start % 16777216 <= _; omega, by show c.start % 16777216 <= c.start % 16777216 ∧ _ - c.start % 16777216 <= _; omega, fun e he => (by cases he), rfl⟩
  ·rw [ha1]; show c.start % 16777216 + 64 - c.start % 16777216 <= 8000000; omega
  ·intro x' u l he
   rw [hn] at he
   simp only [Prod.mk.injEq, Option.some.injEq] at he
   obtain ⟨-, rfl, rfl⟩ := he
   refine ⟨⟨bn2, ⟨Int.le_refl _, by show (0 : Int) < 16777216; decide⟩, by simp, rfl, rfl, rfl⟩, fun j => ?_⟩
   have hr3 := hear3a c (max 1 (min c.most 16)) n1 n1 n2 (Tm.start [0, 0, 0, 0, 0] 0 c.cc)
   rw [<- ha1] at hr3
   rw [hr3]
   rw [acc_no _ _ (fun s hs => (credit_sig _ _ (fun s hs => by rw [List.mem_singleton.1 hs]; show (2 : Int) ≠ 1; decide)).1 s (List.take_subset j _ hs))]
   show ([] : List ByteArray).length <= _
   simp
 have g1 : Fine (half0 ⟨aAsk c, En.new d, []⟩).1.b (half0 ⟨aAsk c, En.new d, []⟩).1.a := by rw [h0]; exact f1
 have g2 : (half0 ⟨aAsk c, En.new d, []⟩).1.got.length <= 100000 := by rw [h0]; simp
 have g3 : more ⟨aAsk c, En.new d, []⟩ = true := by
  have e : more ⟨aAsk c, En.new d, []⟩ = ((half0 ⟨aAsk c, En.new d, []⟩).2 || (half1 (half0 ⟨aAsk c, En.new d, []⟩).1).2) := rfl
  rw [e, h0, Bool.true_or]
 have s1 : a2.stat = false := by rw [h3]
 have s2 : a2.poll = false := by rw [h3]
 have s3 : b2.poll = false := by rw [hb2']
 have s4 : a2.conn.state = 10 := by rw [h3]
 have s5 : b2.conn.state = 10 := by rw [hb2']
 have hR : Rnd ⟨aAsk c, En.new d, []⟩ := by
  generalize aAsk c = x at f0 g1 g2 ⊢
  exact Rnd.mk f0 g1 g2
 refine ⟨hR, g3, a2, b2, _, _, _, _, ?_, ⟨hp, s1, s2, s3, hidl⟩, hwa, s4, s5, m1⟩
 have e : round ⟨aAsk c, En.new d, []⟩ = (half1 (half0 ⟨aAsk c, En.new d, []⟩).1).1 := rfl
 rw [e, h0, h1]
end Pr
end Go.Proofs.YtnenaemincfgpaaGreat

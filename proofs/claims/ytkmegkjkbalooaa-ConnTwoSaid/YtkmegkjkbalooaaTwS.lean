/-
  A connection whose numbers are turned by an offset does what the other does, its numbers turned alike. No program is named.
-/
import Derived.Test.YtkmegkjkbalooaaTwP
namespace Go.Proofs.Ytkmegkjkbalooaa
open Go.RowKit

namespace Tw
open Cn

def ph (a x : Int) : Int := if x = -1 then -1 else (a + x) % 256
def D (x : Int) : Prop := x = -1 ∨ x = 0 ∨ x = 1
theorem ph_inj {a x y : Int} (_ha : 0 ≤ a ∧ a < 256) (hx : D x) (hy : D y) : ph a x = ph a y ↔ x = y := by
  unfold ph
  rcases hx with rfl | rfl | rfl <;> rcases hy with rfl | rfl | rfl <;> simp <;> omega
theorem ph_next {a : Int} : ph a 1 = (ph a 0 + 1) % 256 := by unfold ph; simp
def own (k : Int) : Bool := k == 1 || k == 3 || k == 5 || k == 9
def mapU (a b : Int) (u : U) : U := ⟨u.k, ph (if own u.k then a else b) u.sq, u.n⟩

/-- x is y, its own numbers turned by a, its peer's by b. -/
structure Sim (cr a b : Int) (x y : SR) : Prop where
  cx : x.1.credit = cr
  cy : y.1.credit = cr
  state : x.1.state = y.1.state
  ms : x.1.ms = y.1.ms
  sq : x.1.sq = ph a y.1.sq
  peer : x.1.peer = ph b y.1.peer
  dsq : D y.1.sq
  dpe : D y.1.peer
  units : x.2.units.map ofP = y.2.units.map (fun u => mapU a b (ofP u))
  dun : ∀ u ∈ y.2.units, D u.sq
  sigs : x.2.sigs.map Sig.kind = y.2.sigs.map Sig.kind

/-- A unit that comes. -/
structure IU (a b : Int) (p q : Pd) : Prop where
  kind : p.kind = q.kind
  n : p.n = q.n
  sq : p.sq = ph (if own q.kind then b else a) q.sq
  d : D q.sq

variable {cr a b : Int} {x y : SR} {p q : Pd}

theorem Sim.tell (h : Sim cr a b x y) {s s' : Sig} (e : s.kind = s'.kind) : Sim cr a b (Cn.tell x s) (Cn.tell y s') :=
  ⟨h.cx, h.cy, h.state, h.ms, h.sq, h.peer, h.dsq, h.dpe, h.units, h.dun, by simp [Cn.tell, h.sigs, e]⟩
theorem Sim.tell_ (h : Sim cr a b x y) (k : Int) (sf sf' : Bool) (d d' : ByteArray) : Sim cr a b (Cn.tell x (sig k sf d)) (Cn.tell y (sig k sf' d')) := h.tell rfl
theorem Sim.out (h : Sim cr a b x y) {k sq sq' : Int} {sf sf' : Bool} {d d' : ByteArray} (e : sq = ph (if own k then a else b) sq') (hd : D sq') : Sim cr a b (Cn.out x (unit_ k sq sf d)) (Cn.out y (unit_ k sq' sf' d')) := by
  refine ⟨h.cx, h.cy, h.state, h.ms, h.sq, h.peer, h.dsq, h.dpe, ?_, ?_, h.sigs⟩
  · simp only [Cn.out, List.map_append, List.map_cons, List.map_nil, h.units]
    congr 1
    unfold Cn.crd Cn.unit_ ofP mapU
    dsimp only
    rw [h.cx, h.cy, e]
    split <;> rfl
  · intro u hu
    simp only [Cn.out, List.mem_append, List.mem_singleton] at hu
    rcases hu with hu | hu
    · exact h.dun u hu
    · subst hu
      unfold Cn.crd Cn.unit_
      split <;> exact hd
theorem Sim.to (h : Sim cr a b x y) (st : Int) : Sim cr a b (Cn.to x st) (Cn.to y st) := ⟨h.cx, h.cy, rfl, h.ms, h.sq, h.peer, h.dsq, h.dpe, h.units, h.dun, h.sigs⟩
theorem Sim.stop (h : Sim cr a b x y) (st : Int) : Sim cr a b (Cn.stop x st) (Cn.stop y st) := ⟨h.cx, h.cy, rfl, h.ms, h.sq, h.peer, h.dsq, h.dpe, h.units, h.dun, h.sigs⟩
theorem Sim.ready (h : Sim cr a b x y) : Sim cr a b (Cn.ready x) (Cn.ready y) := ⟨h.cx, h.cy, rfl, h.ms, h.sq, h.peer, h.dsq, h.dpe, h.units, h.dun, h.sigs⟩
theorem own_akind (st : Int) : own (akind st) = true := by unfold akind; split <;> (try split) <;> (try split) <;> rfl
theorem Sim.again (h : Sim cr a b x y) : Sim cr a b (Cn.again x) (Cn.again y) := by
  have h1 : Sim cr a b (Cn.out x (unit_ (akind x.1.state) x.1.sq false x.1.data)) (Cn.out y (unit_ (akind y.1.state) y.1.sq false y.1.data)) := by
    rw [h.state]
    exact h.out (by rw [own_akind, if_pos rfl, h.sq]) h.dsq
  exact ⟨h1.cx, h1.cy, h1.state, h1.ms, h1.sq, h1.peer, h1.dsq, h1.dpe, h1.units, h1.dun, h1.sigs⟩
theorem Sim.begin_ (h : Sim cr a b x y) (h0 : y.1.sq = 0) (st : Int) (d d' : ByteArray) : Sim cr a b (Cn.begin_ x st d) (Cn.begin_ y st d') := by
  refine Sim.again ⟨h.cx, h.cy, rfl, h.ms, ?_, h.peer, ?_, h.dpe, h.units, h.dun, h.sigs⟩
  · show (x.1.sq + 1) % 256 = ph a ((y.1.sq + 1) % 256)
    rw [h.sq, h0]
    exact ph_next.symm
  · show D ((y.1.sq + 1) % 256)
    rw [h0]
    exact .inr (.inr rfl)
theorem Sim.leave (h : Sim cr a b x y) (d d' : ByteArray) : Sim cr a b (Cn.leave x d) (Cn.leave y d') :=
  Sim.again ⟨h.cx, h.cy, rfl, h.ms, h.sq, h.peer, h.dsq, h.dpe, h.units, h.dun, h.sigs⟩
theorem Sim.quit (h : Sim cr a b x y) : Sim cr a b (Cn.quit x) (Cn.quit y) := h.out (by rw [h.sq]; rfl) h.dsq
theorem Sim.report (h : Sim cr a b x y) (c : Int) : Sim cr a b (Cn.report x c) (Cn.report y c) := h.tell rfl
theorem Sim.backs (h : Sim cr a b x y) (hp : p.sq = ph b q.sq) (hd : D q.sq) {k : Int} (hk : own k = false) : ∀ l, Sim cr a b (Cn.backs x p k l) (Cn.backs y q k l) := by
  intro l
  unfold Cn.backs
  induction l generalizing x y with
  | nil => exact h
  | cons s l ih =>
    rw [List.foldl_cons, List.foldl_cons]
    refine ih ?_
    rw [h.state]
    split
    · exact h.out (by rw [hk, hp]; rfl) hd
    · exact h
theorem Sim.heard (h : Sim cr a b x y) (hp : p.sq = ph b q.sq) (hn : p.n = q.n) (hd : D q.sq) : Sim cr a b (Cn.heard x p) (Cn.heard y q) := ⟨h.cx, h.cy, h.state, hn, h.sq, hp, h.dsq, hd, h.units, h.dun, h.sigs⟩
theorem Sim.setMs (h : Sim cr a b x y) (hn : p.n = q.n) : Sim cr a b (Cn.setMs x p) (Cn.setMs y q) := ⟨h.cx, h.cy, h.state, hn, h.sq, h.peer, h.dsq, h.dpe, h.units, h.dun, h.sigs⟩

theorem Sim.ask (h : Sim cr a b x y) (k : Int) (d d' : ByteArray) (h0 : k = 1 ∨ k = 4 → y.1.sq = 0) : Sim cr a b (Cn.ask x k d) (Cn.ask y k d') := by
  unfold Cn.ask
  rw [h.state]
  split
  · rename_i e; exact h.begin_ (h0 (.inl e)) _ _ _
  · split
    · exact (h.out (by rw [h.peer]; rfl) h.dpe).ready
    · split
      · split
        · exact (h.out (by rw [h.peer]; rfl) h.dpe).to _
        · exact h.leave _ _
      · split
        · rename_i e; exact h.begin_ (h0 (.inr e)) _ _ _
        · split
          · exact (h.out (by rw [h.peer]; rfl) h.dpe).ready
          · split
            · split
              · exact (h.out (by rw [h.peer]; rfl) h.dpe).ready
              · exact h.ready
            · exact h
theorem Sim.newBegin (h : Sim cr a b x y) (hp : p.sq = ph b q.sq) (hn : p.n = q.n) (hd : D q.sq) : Sim cr a b (Cn.newBegin x p) (Cn.newBegin y q) := by
  have hh := h.heard hp hn hd
  unfold Cn.newBegin
  rw [h.state]
  dsimp only
  split
  · exact (hh.tell_ _ _ _ _ _).to _
  · split
    · exact ((hh.backs hp hd rfl _).tell_ _ _ _ _ _).ready
    · split
      · exact ((hh.tell_ _ _ _ _ _).tell_ _ _ _ _ _).stop _
      · exact ((hh.tell_ _ _ _ _ _).tell_ _ _ _ _ _).stop _
theorem Sim.end_ (h : Sim cr a b x y) (hp : p.sq = ph b q.sq) (hd : D q.sq) : Sim cr a b (Cn.end_ x p) (Cn.end_ y q) := by
  have hh : Sim cr a b (Cn.out x (unit_ 4 p.sq false no)) (Cn.out y (unit_ 4 q.sq false no)) := h.out (by rw [hp]; rfl) hd
  unfold Cn.end_
  rw [h.state]
  dsimp only
  split
  · exact hh
  · split
    · exact (hh.tell_ _ _ _ _ _).stop _
    · exact (hh.tell_ _ _ _ _ _).stop _
theorem Sim.resync (h : Sim cr a b x y) (hp : p.sq = ph b q.sq) (hn : p.n = q.n) (hd : D q.sq) : Sim cr a b (Cn.resync x p) (Cn.resync y q) := by
  have hh := h.heard hp hn hd
  unfold Cn.resync
  rw [h.state]
  dsimp only
  split
  · exact ((hh.out (by rw [hp]; rfl) hd).tell_ _ _ _ _ _).ready
  · split
    · exact hh
    · exact (hh.tell_ _ _ _ _ _).stop _
theorem Sim.recover (h : Sim cr a b x y) (hp : p.sq = ph b q.sq) (hn : p.n = q.n) (hd : D q.sq) : Sim cr a b (Cn.recover x p) (Cn.recover y q) := by
  have hh := (h.heard hp hn hd).backs (p := p) (q := q) (k := 15) hp hd rfl [7, 8]
  unfold Cn.recover
  rw [h.state]
  dsimp only
  split
  · exact (hh.tell_ _ _ _ _ _).stop _
  · split
    · exact (hh.tell_ _ _ _ _ _).to _
    · exact hh
theorem Sim.answer (h : Sim cr a b x y) (hk : p.kind = q.kind) (hn : p.n = q.n) : Sim cr a b (Cn.answer x p) (Cn.answer y q) := by
  unfold Cn.answer
  rw [h.state, hk]
  split
  · exact ((h.setMs hn).tell_ _ _ _ _ _).ready
  · split
    · exact ((h.setMs hn).tell_ _ _ _ _ _).ready
    · split
      · exact ((h.setMs hn).tell_ _ _ _ _ _).stop _
      · split
        · refine (h.tell ?_).stop _
          split <;> rfl
        · exact h
theorem Sim.handle (h : Sim cr a b x y) (hp : IU a b p q) (ha : 0 ≤ a ∧ a < 256) (hb : 0 ≤ b ∧ b < 256) : Sim cr a b (Cn.handle x p) (Cn.handle y q) := by
  have hs := hp.sq
  unfold Cn.handle
  rw [hp.kind]
  by_cases e1 : q.kind = 1
  · rw [e1] at hs
    have hs : p.sq = ph b q.sq := hs
    have hi : p.sq = x.1.peer ↔ q.sq = y.1.peer := by rw [hs, h.peer]; exact ph_inj hb hp.d h.dpe
    rw [if_pos e1, if_pos e1]
    by_cases e : q.sq = y.1.peer
    · rw [if_pos (hi.2 e), if_pos e]
      exact (h.backs hs hp.d rfl _).backs hs hp.d rfl _
    · rw [if_neg (fun h => e (hi.1 h)), if_neg e]
      exact h.newBegin hs hp.n hp.d
  · rw [if_neg e1, if_neg e1]
    by_cases e3 : q.kind = 3
    · rw [e3] at hs
      rw [if_pos e3, if_pos e3]
      exact h.end_ hs hp.d
    · rw [if_neg e3, if_neg e3]
      by_cases e5 : q.kind = 5
      · rw [e5] at hs
        have hs : p.sq = ph b q.sq := hs
        have hi : p.sq = x.1.peer ↔ q.sq = y.1.peer := by rw [hs, h.peer]; exact ph_inj hb hp.d h.dpe
        rw [if_pos e5, if_pos e5]
        by_cases e : q.sq = y.1.peer
        · rw [if_pos (hi.2 e), if_pos e]
          exact h.backs hs hp.d rfl _
        · rw [if_neg (fun h => e (hi.1 h)), if_neg e]
          exact h.resync hs hp.n hp.d
      · rw [if_neg e5, if_neg e5]
        by_cases e9 : q.kind = 9
        · rw [e9] at hs
          have hs : p.sq = ph b q.sq := hs
          have hi : p.sq = x.1.peer ↔ q.sq = y.1.peer := by rw [hs, h.peer]; exact ph_inj hb hp.d h.dpe
          rw [if_pos e9, if_pos e9]
          by_cases e : q.sq = y.1.peer
          · rw [if_pos (hi.2 e), if_pos e]
            exact h.backs hs hp.d rfl _
          · rw [if_neg (fun h => e (hi.1 h)), if_neg e]
            exact h.recover hs hp.n hp.d
        · rw [if_neg e9, if_neg e9]
          have ho : own q.kind = false := by simp [own, e1, e3, e5, e9]
          rw [ho] at hs
          have hs : p.sq = ph a q.sq := hs
          have hi : p.sq = x.1.sq ↔ q.sq = y.1.sq := by rw [hs, h.sq]; exact ph_inj ha hp.d h.dsq
          by_cases e : q.sq = y.1.sq
          · rw [if_pos (hi.2 e), if_pos e]
            exact h.answer hp.kind hp.n
          · rw [if_neg (fun h => e (hi.1 h)), if_neg e]
            exact h
theorem Sim.hear (h : Sim cr a b x y) (hp : IU a b p q) (ha : 0 ≤ a ∧ a < 256) (hb : 0 ≤ b ∧ b < 256) (w l : Int) : Sim cr a b (Cn.hear w l x p) (Cn.hear w l y q) := by
  unfold Cn.hear
  split
  · exact h.handle hp ha hb
  · split
    · exact h.report _
    · split
      · exact (h.report _).quit
      · split
        · exact ((h.report _).tell_ _ _ _ _ _).stop _
        · exact h

/-- Two connections, the one turned. -/
structure SS (cr a b : Int) (s t : S) : Prop where
  cx : s.credit = cr
  cy : t.credit = cr
  state : s.state = t.state
  ms : s.ms = t.ms
  sq : s.sq = ph a t.sq
  peer : s.peer = ph b t.peer
  dsq : D t.sq
  dpe : D t.peer
theorem SS.sim {s t : S} (h : SS cr a b s t) : Sim cr a b (s, r0) (t, r0) := ⟨h.cx, h.cy, h.state, h.ms, h.sq, h.peer, h.dsq, h.dpe, rfl, (fun _ hu => nomatch hu), rfl⟩
theorem Sim.ss (h : Sim cr a b x y) : SS cr a b x.1 y.1 := ⟨h.cx, h.cy, h.state, h.ms, h.sq, h.peer, h.dsq, h.dpe⟩
theorem SS.hearS {s t : S} (h : SS cr a b s t) (hp : IU a b p q) (ha : 0 ≤ a ∧ a < 256) (hb : 0 ≤ b ∧ b < 256) : Sim cr a b (Cn.hearS s p) (Cn.hearS t q) := by
  unfold Cn.hearS
  rw [h.state, hp.kind]
  exact h.sim.hear hp ha hb _ _
theorem SS.failS {s t : S} (h : SS cr a b s t) (h0 : t.sq = 0) (c : Int) : Sim cr a b (Cn.failS s c) (Cn.failS t c) := by
  unfold Cn.failS
  rw [h.state]
  split
  · exact (h.sim.report c).begin_ h0 _ _ _
  · exact h.sim
theorem SS.askErr {s t : S} (h : SS cr a b s t) (k : Int) : Cn.askErr s k no = Cn.askErr t k no := by unfold Cn.askErr; rw [h.state]
theorem SS.askS {s t : S} (h : SS cr a b s t) (k : Int) (h0 : k = 1 ∨ k = 4 → t.sq = 0) : Sim cr a b (Cn.askS s k no) (Cn.askS t k no) := by
  unfold Cn.askS
  rw [h.askErr k]
  split
  · exact h.sim.ask k _ _ h0
  · exact h.sim
end Tw
end Go.Proofs.Ytkmegkjkbalooaa

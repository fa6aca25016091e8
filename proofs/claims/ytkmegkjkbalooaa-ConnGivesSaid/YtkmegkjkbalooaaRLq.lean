/-
  polliwogref14: Request and Receive, as far as the ways of 'at' want them.
-/
import Derived.Test.YtkmegkjkbalooaaRg14q
import Derived.Test.YtkmegkjkbalooaaRLa
import Derived.Test.YtkmegkjkbalooaaRLb
namespace Go.Proofs.Ytkmegkjkbalooaa
open Go.RowKit

theorem rreceive_some {K : Nat → Prop} {w : World} (hlim : ∀ k, K k → k < w.heap.size) (s : Cn.S) (p : Cn.Pd) (q1 : Ru.refOf s.state p.kind = 1)
    (hc : (p.kind = 1 ∧ s.state = 1 ∧ ¬ p.sq = s.peer) ∨ (p.kind = 5 ∧ (7 ≤ s.state ∧ s.state ≤ 10) ∧ ¬ p.sq = s.peer) ∨ (p.kind = 9 ∧ s.state = 10 ∧ ¬ p.sq = s.peer) ∨ (p.kind = 15 ∧ s.state = 7 ∧ p.sq = s.sq)) :
    Calls Try.prog 62 #[rcV s, ruV p] w (RPost K 9 (Cn.hearS s p) w) := by
  obtain ⟨mo, cr, st, sq, pe, cc, ms, da⟩ := s
  obtain ⟨kd, psq, pn, ps, mr, lA, ln, lc, self, d⟩ := p
  show Calls Try.prog 62 #[rcV _, ruV ⟨kd, psq, pn, 0, 0, none, 0, 0, self, d⟩] w (RPost K 9 (Cn.hear (Ru.of_ st kd) (Ru.letter kd) (_, Cn.r0) ⟨kd, psq, pn, 0, 0, none, 0, 0, self, d⟩) w)
  rw [Ru.of_eq]
  have q1 : Ru.refOf st kd = 1 := q1
  rw [q1]
  rcases hc with ⟨e, e2, e3⟩ | ⟨e, e2, e3⟩ | ⟨e, e2, e3⟩ | ⟨e, e2, e3⟩
  · have e : kd = 1 := e; have e2 : st = 1 := e2
    subst e e2; exact rrec_1_1n hlim mo cr sq pe cc ms psq pn _ da self d q1 e3
  · have e : kd = 5 := e
    subst e; exact rrec_5_pn hlim mo cr st sq pe cc ms psq pn _ da self d q1 e2 e3
  · have e : kd = 9 := e; have e2 : st = 10 := e2
    subst e e2; exact rrec_9_10n hlim mo cr sq pe cc ms psq pn _ da self d q1 e3
  · have e : kd = 15 := e; have e2 : st = 7 := e2; have e3 : psq = sq := e3
    subst e e2 e3; exact rrec_15y hlim mo cr psq pe cc ms pn _ da self d q1

theorem rrequest_some {K : Nat → Prop} {w : World} {s : Cn.S} (hlim : ∀ k, K k → k < w.heap.size) (kind : Int) (d : ByteArray) (hd : d.size ≤ maxLen) (hq : 0 ≤ s.sq ∧ s.sq ≤ 255) (he : Cn.askErr s kind d = 0)
    (hc : kind = 1 ∨ kind = 2 ∨ (kind = 3 ∧ ¬ s.state = 3) ∨ kind = 4) :
    Calls Try.prog 53 #[rcV s, .int .i64 kind, .string d] w (RPost3 K 9 (Cn.askS s kind d) (Cn.askErr s kind d) w) := by
  have hk : ¬ (kind < 1 ∨ 6 < kind) := by omega
  have hs : Cn.askS s kind d = Cn.ask (s, Cn.r0) kind d := by unfold Cn.askS; rw [he, if_pos rfl]
  have he' := he
  unfold Cn.askErr at he'
  rw [if_neg hk, Ru.may_eq] at he'
  cases hb : Cn.bigAsk kind d with
  | true => rw [hb, if_pos rfl] at he'; cases he'
  | false =>
    cases hm : Ru.refMay s.state kind with
    | false => rw [hb, hm] at he'; cases he'
    | true =>
      rw [he, hs]
      rcases hc with e | e | ⟨e, h3⟩ | e <;> subst e
      · exact rrequest_1 hlim d hd hq hb hm
      · exact rrequest_2 hlim d hd hq hb hm
      · exact rrequest_3n hlim d hd hq hb hm h3
      · exact rrequest_4 hlim d hd hq hb hm
end Go.Proofs.Ytkmegkjkbalooaa

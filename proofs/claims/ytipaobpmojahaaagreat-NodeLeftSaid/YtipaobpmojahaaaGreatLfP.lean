/-
  What wasn't acknowledged is handed back behind the end of an epoch, plain. No program is named.
-/
import Derived.Test.YtipaobpmojahaaaGreatOpY
import Derived.Test.YtipaobpmojahaaaGreatEnR
import Derived.Test.YtipaobpmojahaaaGreatEvD
import Derived.BigRegion
import Derived.Test.YtipaobpmojahaaaGreatEnZk
namespace Go.Proofs.YtipaobpmojahaaaGreat
set_option maxRecDepth 20000
namespace Lf
open En (X Fit)
structure L (lo hi : Int) (q : Nat) (x : X) (asked : List ByteArray) : Prop where
 st : x.c.start % 16777216 = lo
 cs : x.conn.state = 10
 ct : x.ctl = []
 un : x.units = []
 lf : x.left = []
 sf : x.stat = false
 al : asked.length <= q
 fit : Fit x hi lo
 ep : ∃ s r, x.ep = some (s, r) ∧ s.again = [] ∧ r.gaps = [] ∧ s.kept ++ s.wait = asked ∧ s.most = q
def N0 (x : X) : Prop := ∀ s r, x.ep = some (s, r) -> s.kept = []
section
variable {lo hi : Int} {q : Nat} {x : X} {asked : List ByteArray}
theorem fit_lk (h : Fit x hi lo) (b : Bool) : Fit { x with lacks := b } hi lo := ⟨h.nd, h.ks, h.b1, h.b2, h.ep, h.st⟩
theorem err7 {d : ByteArray} (hd : d.size <= 5) : Ev.err 7 d 0 = 0 := by
 have hm : Ev.most 7 = 200 := rfl
 unfold Ev.err
 rw [hm, if_neg (by omega), if_neg (by omega), if_neg (by omega)]
theorem L.ask (h : L lo hi q x asked) (h0 : N0 x) {d : ByteArray} (hd : d.size <= 5) :
  ∃ y sg er, En.request x 7 d 0 = (y, sg, er) ∧ N0 y ∧ L lo hi q y (if er = 0 then asked ++ [d] else asked) := by
 obtain ⟨s, r, he, ha, hg, hk, hq⟩ := h.ep
 have hk0 := h0 s r he
 have hm : Ru.may x.conn.state 7 = true := by rw [h.cs]; decide +kernel
 have hw : s.wait = asked := by rw [<- hk, hk0]; rfl
 have hfa := En.ask_ok h.fit 7 d 0
 have ea : En.ask x 7 d 0 = En.putS x d := rfl
 rw [ea] at hfa
 have ep : En.putS x d = if s.wait.length < s.most then ({ x with ep := some (Sf.put s d, r), tm := Pc.busy x.tm x.c.poll x.c.silent }, [], 0) else (x, [], 7) := by
  unfold En.putS
  rw [he]
 unfold En.request
 rw [if_pos (err7 hd), if_pos hm, ea]
 by_cases hl : s.wait.length < s.most
 ·rw [ep, if_pos hl] at hfa ⊢
  dsimp only at hfa ⊢
  rw [if_pos rfl]
  have es : Sf.put s d = { s with wait := s.wait ++ [d] } := if_pos hl
  refine ⟨_, _, 0, rfl, ?_, ?_⟩
  ·intro s' r' e
   have e : some (Sf.put s d, r) = some (s', r') := e
   injection e with e
   injection e with e1 e2
   rw [<- e1, es]
   exact hk0
  ·rw [if_pos rfl]
   refine ⟨h.st, h.cs, h.ct, h.un, h.lf, h.sf, ?_, fit_lk hfa _, _, r, rfl, ?_, hg, ?_, ?_⟩
   ·rw [List.length_append, List.length_singleton, <- hw]; omega
   ·rw [es]; exact ha
   ·rw [es]; show s.kept ++ (s.wait ++ [d]) = _; rw [<- List.append_assoc, hk]
   ·rw [es]; exact hq
 ·rw [ep, if_neg hl]
  dsimp only
  rw [if_neg (by decide)]
  exact ⟨x, [], 7, rfl, h0, by rw [if_neg (by decide)]; exact h⟩
theorem L.next (h : L lo hi q x asked) (hh : hi + 1 - lo <= 4000) : L lo (hi + 1) q (En.next x).1 asked := by
 obtain ⟨s, r, he, ha, hg, hk, hq⟩ := h.ep
 have hf := En.next_ok h.fit (by rw [h.st]; exact hh)
 have g1 := Ope.gap_no hg
 have e : En.next x = if x.poll || decide (s.polls <= s.units) then ({ x with poll := false, ep := some (Sf.poll s, r), tm := Pc.polled x.tm x.c.poll x.c.keep x.c.silent (En.sIdle s) }, some (En.numed 10 (s.s % 16777216) ((s.ps + 1) % 16777216) 0 Cn.no, []))
   else ({ x with ep := some ((Sf.next s).1, r) }, if (Sf.next s).2.2.2.2 then some (En.numed 8 ((Sf.next s).2.1 % 16777216) 0 0 (Sf.next s).2.2.1, []) else none) := by
  unfold En.next
  rw [h.ct, h.un, he]
  dsimp only
  rw [h.sf, g1.1, g1.2]
  rfl
 rw [e] at hf ⊢
 by_cases hp : (x.poll || decide (s.polls <= s.units)) = true
 ·rw [if_pos hp] at hf ⊢
  exact ⟨h.st, h.cs, h.ct, h.un, h.lf, h.sf, h.al, hf, _, r, rfl, ha, hg, hk, hq⟩
 ·rw [if_neg hp] at hf ⊢
  refine ⟨h.st, h.cs, h.ct, h.un, h.lf, h.sf, h.al, hf, _, r, rfl, ?_, hg, ?_, ?_⟩
  all_goals
   unfold Sf.next
   rw [ha]
   dsimp only
   split
   ·assumption
   ·rename_i v w hw
    split
    ·assumption
    ·first
      |exact ha
      |exact hq
      |(show s.kept ++ [v] ++ w = asked
        rw [<- hk, hw, List.append_assoc]
        rfl)
theorem hear_stat {x : X} {hi hi2 : Int} (h : Fit x hi hi2) (hh : hi2 + 64 - x.c.start % 16777216 <= 8000000) {e : Sf.S × Rf.S} (he : x.ep = some e) (u : Cn.Pd) (l : List Int) (hk : u.kind = 11) : Fit (En.hear x u l).1 hi (hi2 + 64) ∧ (En.hear x u l).2.length <= 1000 := by
 obtain ⟨hs, hr⟩ := h.ep e he
 have hf : ∀ code, Fit (En.fail x code).1 hi (hi2 + 64) ∧ (En.fail x code).2.length <= 1000 := fun code => by
  have hy := En.fail_ok h code
  have hc : (En.fail x code).1.c = x.c := En.brought_c _ _
  exact ⟨hy.1.mono (Int.le_refl _) (by omega) (by rw [hc]; exact h.b1.2) (by rw [hc]; exact hh), hy.2⟩
 have e1 : En.hear x u l = En.transfer x e u l := by
  unfold En.hear
  rw [if_neg (by omega), if_neg (by omega), he]
  dsimp only
  rw [if_pos (by rw [hk]; decide)]
 rw [e1]
 unfold En.transfer
 rw [if_neg (by omega), if_neg (by omega), if_pos hk]
 dsimp only
 split
 ·exact hf 82
 ·split
  ·exact hf 83
  ·exact ⟨h.parts _ (by rw [he]; rfl) rfl rfl rfl rfl (hs.stat _ _ _ _) (hr.mono (by omega) hh) (by omega) hh, En.again_sg _⟩
def ackU (s : Sf.S) (k : Nat) : Cn.Pd := ⟨11, 0, (s.a + k) % 16777216, s.pa % 16777216, s.ms % 16777216, none, 0, 0, false, Cn.no⟩
theorem L.heard (h : L lo hi q x asked) {s : Sf.S} {r : Rf.S} (he : x.ep = some (s, r)) {k : Nat} (hk : k <= s.kept.length) (_hh : hi - lo <= 4000) :
  ∃ y sg, En.receive x (ackU s k) [] = (y, sg) ∧ y.lacks = En.lack y ∧ y.conn.state = 10 ∧ y.left = [] ∧ y.c = x.c ∧ y.ctl = [] ∧ Fit y hi (lo + 64) ∧ ∃ s' r', y.ep = some (s', r') ∧ s'.kept ++ s'.wait = asked.drop k := by
 obtain ⟨s0, r0, he0, ha, hg, hkw, hq⟩ := h.ep
 rw [he] at he0
 injection he0 with he0
 injection he0 with e1 e2
 subst e1 e2
 have hf := (hear_stat h.fit (by rw [h.st]; omega) he (ackU s k) [] rfl).1.credit (En.hear x (ackU s k) []).2
 obtain ⟨ho, hr⟩ := h.fit.ep _ he
 have ho : Sf.Ok s (x.c.start % 16777216) hi := ho
 have hla := ho.la
 have hkl := ho.klen
 have hshi := ho.shi
 have hhl := ho.hl
 have hat : Sf.at_ s ((s.a + k) % 16777216) = s.a + k := by unfold Sf.at_; omega
 have hpa : Sf.pollAt s (s.pa % 16777216) = s.pa := by unfold Sf.pollAt; omega
 have htok : Sf.toldOk s ((s.a + k) % 16777216) [] = true := by
  unfold Sf.toldOk
  rw [hat]
  have hb : (s.s - (s.a + (k : Int))) % 16777216 <= 8388608 := by
   have := ho.shi; have := ho.hl; have := ho.la
   omega
  simp only [Gp.okSet, Gp.ats, Gp.up, List.map_nil, List.length_nil, hb, decide_true, Bool.and_true, Nat.zero_mod, Bool.and_self, decide_eq_true_eq]
  omega
 obtain ⟨z, hz⟩ := xq (Sf.stat s (ackU s k).n (ackU s k).mr (ackU s k).ps [])
 have hz2 : z.2.2 = 0 ∧ z.2.1 = 0 ∧ z.1.kept = s.kept.drop k ∧ z.1.wait = s.wait := by
  rw [hz]
  unfold Sf.stat ackU
  dsimp only
  rw [hpa, if_neg (by have := ho.pas; omega), htok, hat]
  simp only [Bool.true_eq_false, if_false]
  have hto : ∀ y : Sf.S, ∀ b, Sf.told y b [] = [] := fun y b => rfl
  rw [hto]
  have hop := Ope.opn_wait ({ Sf.ack s (s.a + k) with pa := s.pa } : Sf.S) (s.ms % 16777216)
  refine ⟨trivial, rfl, ?_, ?_⟩
  ·show (Sf.opn _ _).kept = _
   rw [hop.2.1]
   show s.kept.drop (s.a + (k : Int) - s.a).toNat = _
   rw [show (s.a + (k : Int) - s.a).toNat = k by omega]
  ·show (Sf.opn _ _).wait = _
   rw [hop.1]
   rfl
 have et : En.hear x (ackU s k) [] = ({ x with ep := some (z.1, r), tm := Pc.answered x.tm x.c.silent x.c.idle (En.sIdle z.1) }, []) := by
  unfold En.hear
  rw [if_neg (by show ¬ (11 : Int) = 13; decide), if_neg (by show ¬ (11 : Int) = 14; decide), he]
  dsimp only
  rw [if_pos (by show En.ofEp 11 = true; decide)]
  unfold En.transfer
  rw [if_neg (by show ¬ (11 : Int) = 8; decide), if_neg (by show ¬ (11 : Int) = 10; decide), if_pos (by show (11 : Int) = 11; rfl)]
  dsimp only
  rw [<- hz, hz2.1, hz2.2.1]
  rfl
 have er : En.receive x (ackU s k) [] = En.credit ({ x with ep := some (z.1, r), tm := Pc.answered x.tm x.c.silent x.c.idle (En.sIdle z.1) }) [] := by
  unfold En.receive
  rw [et]
 rw [et] at hf
 rw [er]
 refine ⟨_, _, rfl, rfl, h.cs, h.lf, rfl, h.ct, hf, z.1, r, rfl, ?_⟩
 rw [hz2.2.2.1, hz2.2.2.2, <- hkw, List.drop_append_of_le_length hk]
theorem retr0 {x : X} (h1 : x.conn.state = 10) (h2 : x.left = []) (h3 : x.lacks = En.lack x) : En.request x 11 Cn.no 0 = (x, [], 0) := by
 have e1 : Ev.err 11 Cn.no 0 = 0 := by decide +kernel
 have e2 : Ru.may x.conn.state 11 = true := by rw [h1]; decide +kernel
 have ea : En.ask x 11 Cn.no 0 = ({ x with left := [] }, x.left.map (En.msg 11), 0) := rfl
 have ex : ({ x with left := [] } : X) = x := by rw [<- h2]
 have ec : En.credit x [] = (x, []) := by
  unfold En.credit
  rw [<- h3]
  cases hl : x.lacks
  ·refine Prod.ext ?_ rfl
   show ({ x with lacks := false } : X) = x
   rw [<- hl]
  ·refine Prod.ext ?_ rfl
   show ({ x with lacks := true } : X) = x
   rw [<- hl]
 unfold En.request
 rw [if_pos e1, if_pos e2, ea, ex, h2]
 show (if (0 : Int) = 0 then ((En.credit x []).1, (En.credit x []).2, (0 : Int)) else _) = _
 rw [if_pos rfl, ec]
theorem release {x : X} {s : Sf.S} {r : Rf.S} (h1 : x.conn.state = 10) (he : x.ep = some (s, r)) (hf : Fit x hi lo) : ∃ y sg, En.request x 3 Cn.no 0 = (y, sg, 0) ∧ y.left = s.kept ++ s.wait ∧ y.conn.state = 4 ∧ y.ep = none ∧ y.lacks = false ∧ Fit y hi lo := by
 have e1 : Ev.err 3 Cn.no 0 = 0 := by decide +kernel
 have e2 : Ru.may x.conn.state 3 = true := by rw [h1]; decide +kernel
 have hfa := En.ask_ok hf 3 Cn.no 0
 have e3 : Cn.askErr x.conn 3 Cn.no = 0 := by
  unfold Cn.askErr
  rw [if_neg (by decide), if_neg (by decide +kernel), if_pos e2]
 have e4 : Cn.askS x.conn 3 Cn.no = Cn.leave (x.conn, Cn.r0) Cn.no := by
  unfold Cn.askS
  rw [if_pos e3]
  show (if x.conn.state = 3 then _ else _) = _
  rw [if_neg (by rw [h1]; decide)]
 have ea : En.ask x 3 Cn.no 0 = ((En.brought x (Cn.askS x.conn 3 Cn.no)).1, (En.brought x (Cn.askS x.conn 3 Cn.no)).2, 0) := by
  show En.askC x 3 Cn.no = _
  unfold En.askC
  rw [if_pos e3]
 obtain ⟨c, ⟨most, credit, state, sq, peer, cc, ms, data⟩, tm, ctl, units, left, poll, stat, asked, lacks, ep⟩ := x
 dsimp only at h1 he e2 e3 e4
 subst h1 he
 have eb : ∃ tm' ctl', En.brought ⟨c, ⟨most, credit, 10, sq, peer, cc, ms, data⟩, tm, ctl, units, left, poll, stat, asked, lacks, some (s, r)⟩ (Cn.leave (⟨most, credit, 10, sq, peer, cc, ms, data⟩, Cn.r0) Cn.no) = (⟨c, ⟨most, credit, 4, sq, peer, 1, ms, Cn.no⟩, tm', ctl', units, s.kept ++ s.wait, false, false, asked, lacks, none⟩, []) := ⟨_, _, rfl⟩
 obtain ⟨tm', ctl', eb⟩ := eb
 rw [e4, eb] at ea
 rw [ea] at hfa
 unfold En.request
 rw [if_pos e1, if_pos e2, ea]
 dsimp only at hfa ⊢
 rw [if_pos rfl]
 exact ⟨_, _, rfl, rfl, rfl, rfl, rfl, fit_lk hfa _⟩
theorem retr {x : X} (h1 : x.conn.state = 4) (he : x.ep = none) (hl : x.lacks = false) : En.request x 11 Cn.no 0 = ({ x with left := [] }, x.left.map (En.msg 11), 0) := by
 have e1 : Ev.err 11 Cn.no 0 = 0 := by decide +kernel
 have e2 : Ru.may x.conn.state 11 = true := by rw [h1]; decide +kernel
 have ea : En.ask x 11 Cn.no 0 = ({ x with left := [] }, x.left.map (En.msg 11), 0) := rfl
 unfold En.request
 rw [if_pos e1, if_pos e2, ea]
 dsimp only
 rw [if_pos rfl]
 cases x
 dsimp only at he hl ⊢
 subst he hl
 rfl
end
theorem L.opened {c : Nd.C} (hq : 1 <= c.queue ∧ c.queue <= 256) (n : Int) : L (c.start % 16777216) (c.start % 16777216) c.queue.toNat (Ope.x3 c n) [] ∧ N0 (Ope.x3 c n) := by
 obtain ⟨h1, h2, h3, h4, h5, h6, h7⟩ := Ope.opn_wait (Sf.new c.start c.queue c.polls) n
 refine ⟨⟨rfl, rfl, rfl, rfl, rfl, rfl, by simp, Ope.fit3 n, _, _, rfl, h3, rfl, ?_, ?_⟩, fun s r e => ?_⟩
 ·show (Sf.opn _ _).kept ++ (Sf.opn _ _).wait = []
  rw [h1, h2]; rfl
 ·show (Sf.opn _ _).most = _
  rw [h6]
  show (max 1 (min c.queue 256)).toNat = _
  rw [show max 1 (min c.queue 256) = c.queue by omega]
 ·injection e with e
  injection e with e1 e2
  rw [<- e1]
  exact h2
end Lf
end Go.Proofs.YtipaobpmojahaaaGreat

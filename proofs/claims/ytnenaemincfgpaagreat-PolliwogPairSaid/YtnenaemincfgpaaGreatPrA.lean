/-
  node, plain: what an end is, and what each call makes of it. No program is named · node, plain: what an end is between two calls (Fit), and that each call keeps it. No program is named · node, plain: what a request keeps. No program is named · Two ends that hear one another, plain: one way from a sender to a receiver, nothing lost. No program is named.
-/
import Derived.Test.YtnenaemincfgpaaGreatNdO
import Derived.Test.YtnenaemincfgpaaGreatEnQ
import Derived.Test.YtnenaemincfgpaaGreatPace2
import Derived.Test.YtnenaemincfgpaaGreatGapS
import Derived.Test.YtnenaemincfgpaaGreatSf
import Derived.Test.YtnenaemincfgpaaGreatRf
import Derived.Test.YtnenaemincfgpaaGreatEvD
namespace Go.Proofs.YtnenaemincfgpaaGreat
namespace En
structure X where
 c : Nd.C
 conn : Cn.S
 tm : List Int
 ctl : List Cn.Pd
 units : List Cn.Pd
 left : List ByteArray
 poll : Bool
 stat : Bool
 asked : Int
 lacks : Bool
 ep : Option (Sf.S × Rf.S)
def new (c : Nd.C) : X := ⟨c, Cn.new c.most ((c.start + c.window) % 16777216), [0, 0, 0, 0, 0], [], [], [], false, false, 0, false, none⟩
def ready (x : X) : Bool := x.ep.isSome
def sIdle (s : Sf.S) : Bool := decide (s.wait.length = 0) && decide (s.kept.length = 0)
def idle (x : X) : Bool := match x.ep with
 |none => true
 |some e => sIdle e.1
def ctl1 (l : List Cn.Pd) (u : Cn.Pd) : List Cn.Pd := (l.filter fun x => !(x.kind == u.kind)) ++ [u]
def ctls (l us : List Cn.Pd) : List Cn.Pd := us.foldl ctl1 l
def timed (x : X) (t : Int) : X := if t = 1 then { x with tm := Tm.start x.tm 0 x.c.cc } else if t = 2 then { x with tm := Tm.stop x.tm 0 } else x
def over (x : X) : X := { x with poll := false, stat := false }
def leftOf (x : X) : List ByteArray := match x.ep with
 |none => []
 |some e => e.1.kept ++ e.1.wait
def ended (x : X) : X := over { x with tm := Pc.end_ x.tm, left := leftOf x, ep := none }
def epoch (c : Nd.C) (ms : Int) : Sf.S × Rf.S := (Sf.opn (Sf.new c.start c.queue c.polls) ms, Rf.new c.start c.window)
def begun (x : X) (ms : Int) : X := over { x with ep := some (epoch x.c ms), tm := Pc.begin_ x.tm x.c.poll x.c.silent }
def bring1 (x : X) (r : Cn.R) : X := timed { x with ctl := ctls x.ctl r.units } r.timer
def bring2 (x : X) (r : Cn.R) : X := if r.ends then ended (bring1 x r) else bring1 x r
def bring (x : X) (r : Cn.R) : X := if r.begins then begun (bring2 x r) r.ms else bring2 x r
def brought (x : X) (y : Cn.SR) : X × List Cn.Sig := (bring { x with conn := y.1 } y.2, y.2.sigs)
def lack (x : X) : Bool := match x.ep with
 |none => false
 |some e => decide (0 < e.1.wait.length) && (e.1.s == e.1.ms)
def rep (code n : Int) : Cn.Sig := ⟨12, Cn.no, false, code, n⟩
def credit (x : X) (l : List Cn.Sig) : X × List Cn.Sig :=
 ({ x with lacks := lack x }, if lack x && !x.lacks then l ++ [rep 87 0] else if (x.lacks && !lack x) && ready x then l ++ [rep 88 0] else l)
def msg (kind : Int) (d : ByteArray) : Cn.Sig := ⟨kind, d, false, 0, 0⟩
def umsg (kind : Int) (d : ByteArray) : Cn.Pd := ⟨kind, 0, 0, 0, 0, none, 0, 0, false, d⟩
def putS (x : X) (d : ByteArray) : X × List Cn.Sig × Int := match x.ep with
 |none => (x, [], 8)
 |some e => if e.1.wait.length < e.1.most then ({ x with ep := some (Sf.put e.1 d, e.2), tm := Pc.busy x.tm x.c.poll x.c.silent }, [], 0) else (x, [], 7)
def putU (x : X) (u : Cn.Pd) : X × List Cn.Sig × Int := if (x.units.length : Int) < x.c.units then ({ x with units := x.units ++ [u] }, [], 0) else (x, [], 7)
def took (r : Rf.S) (n : Int) : Rf.S := { r with inbox := r.inbox.drop (max 0 (min n (r.inbox.length : Int))).toNat }
def take (x : X) (n : Int) : X := match x.ep with
 |none => x
 |some e => { x with ep := some (e.1, took e.2 n) }
def askC (x : X) (kind : Int) (d : ByteArray) : X × List Cn.Sig × Int :=
 if Cn.askErr x.conn kind d = 0 then let y := brought x (Cn.askS x.conn kind d); (y.1, y.2, 0) else (x, [], Cn.askErr x.conn kind d)
def ask (x : X) (kind : Int) (d : ByteArray) (n : Int) : X × List Cn.Sig × Int :=
 if kind = 7 then putS x d
 else if kind = 8 then putU x (umsg 13 d)
 else if kind = 9 then putU x (umsg 14 d)
 else if kind = 10 then (take x n, [], 0)
 else if kind = 11 then ({ x with left := [] }, x.left.map (msg 11), 0)
 else askC x kind d
def request (x : X) (kind : Int) (d : ByteArray) (n : Int) : X × List Cn.Sig × Int :=
 if Ev.err kind d n = 0 then
  if Ru.may x.conn.state kind then
   let y := ask x kind d n
   if y.2.2 = 0 then let z := credit y.1 y.2.1; (z.1, z.2, 0) else (y.1, [], y.2.2)
  else (x, [], 8)
 else (x, [], Ev.err kind d n)
def fail (x : X) (code : Int) : X × List Cn.Sig := brought x (Cn.failS x.conn code)
def again (count : Int) : List Cn.Sig := if count = 0 then [] else [rep 86 count]
def transfer (x : X) (e : Sf.S × Rf.S) (u : Cn.Pd) (l : List Int) : X × List Cn.Sig :=
 if u.kind = 8 then let d := Rf.data e.2 u.n u.data; ({ x with ep := some (e.1, d.1) }, d.2.map (msg 8))
 else if u.kind = 10 then
  if Rf.pollOk e.2 u.n then ({ x with ep := some (e.1, Rf.poll e.2 u.n), stat := true, asked := u.ps }, []) else fail x 81
 else if u.kind = 11 then
  let y := Sf.stat e.1 u.n u.mr u.ps l
  if y.2.2 = 12 then fail x 82
  else if y.2.2 = 13 then fail x 83
  else ({ x with ep := some (y.1, e.2), tm := Pc.answered x.tm x.c.silent x.c.idle (sIdle y.1) }, again y.2.1)
 else
  let y := Sf.ustat e.1 u.n u.mr l
  if y.2.2 = 0 then ({ x with ep := some (y.1, e.2) }, again y.2.1) else fail x 84
def ofEp (kind : Int) : Bool := kind == 8 || kind == 10 || kind == 11 || kind == 12
def hear (x : X) (u : Cn.Pd) (l : List Int) : X × List Cn.Sig :=
 if u.kind = 13 then (x, [msg 9 u.data])
 else if u.kind = 14 then (x, [msg 10 u.data])
 else match x.ep with
  |none => brought x (Cn.hearS x.conn u)
  |some e => if ofEp u.kind then transfer x e u l else brought x (Cn.hearS x.conn u)
def receive (x : X) (u : Cn.Pd) (l : List Int) : X × List Cn.Sig := let y := hear x u l; credit y.1 y.2
def due (x : X) (t : Int) : X × List Cn.Sig :=
 if t = 0 then brought x (Cn.expireS x.conn)
 else if t = 3 then brought x (Cn.silentS x.conn)
 else ({ x with poll := x.poll || ready x }, [])
def dues : List Int -> X × List Cn.Sig -> X × List Cn.Sig
 |[], y => y
 |t :: r, y => let z := due y.1 t; dues r (z.1, y.2 ++ z.2)
def tick (x : X) : X × List Cn.Sig := let y := dues (Tm.over x.tm) ({ x with tm := Tm.tick x.tm }, []); credit y.1 y.2
def spansOf (r : Rf.S) : List (Int × Int) := (Rf.missing r).foldl (fun out n => Sp.mergeStep out (n - r.R, n - r.R + 1)) []
def pairs (r : Rf.S) : List Int := Gp.gl (r.R % 16777216) (spansOf r)
def numed (kind n ps mr : Int) (data : ByteArray) : Cn.Pd := ⟨kind, 0, n, ps, mr, none, 0, 0, false, data⟩
def next (x : X) : X × Option (Cn.Pd × List Int) :=
 match x.ctl with
 |u :: r => ({ x with ctl := r }, some (u, []))
 |[] => match x.units with
  |u :: r => ({ x with units := r }, some (u, []))
  |[] => match x.ep with
   |none => (x, none)
   |some (s, r) =>
    if x.stat then
     let r' := Rf.renew r
     ({ x with stat := false, ep := some (s, r') }, some (numed 11 (r'.R % 16777216) x.asked (r'.MR % 16777216) Cn.no, pairs r'))
    else
     let g := Rf.gap r
     if g.2.2.2 then ({ x with ep := some (s, g.1) }, some (numed 12 (g.1.R % 16777216) 0 (g.1.MR % 16777216) Cn.no, [g.2.1 % 16777216, g.2.2.1 % 16777216]))
     else if x.poll || decide (s.polls <= s.units) then
      ({ x with poll := false, ep := some (Sf.poll s, g.1), tm := Pc.polled x.tm x.c.poll x.c.keep x.c.silent (sIdle s) }, some (numed 10 (s.s % 16777216) ((s.ps + 1) % 16777216) 0 Cn.no, []))
     else
      let n := Sf.next s
      ({ x with ep := some (n.1, g.1) }, if n.2.2.2.2 then some (numed 8 (n.2.1 % 16777216) 0 0 n.2.2.1, []) else none)
def quiet (x : X) : Bool := decide (x.ctl.length = 0) && decide (x.units.length = 0) && !x.poll && !x.stat && match x.ep with
 |none => true
 |some e => sIdle e.1 && decide (e.2.gaps.length = 0)
end En
namespace En
structure Fit (x : X) (hi hi2 : Int) : Prop where
 nd : (x.ctl.map (·.kind)).Nodup
 ks : ∀ u ∈ x.ctl, 1 <= u.kind ∧ u.kind <= 15
 b1 : x.c.start % 16777216 <= hi ∧ hi - x.c.start % 16777216 <= 4000
 b2 : x.c.start % 16777216 <= hi2 ∧ hi2 - x.c.start % 16777216 <= 8000000
 ep : ∀ e, x.ep = some e -> Sf.Ok e.1 (x.c.start % 16777216) hi ∧ Rf.Ok e.2 (x.c.start % 16777216) hi2
 st : x.ep.isSome = (x.conn.state == 10)
theorem few {l : List Cn.Pd} (h1 : (l.map (·.kind)).Nodup) (h2 : ∀ u ∈ l, 1 <= u.kind ∧ u.kind <= 15) : l.length <= 15 := by
 have := Rf.nodup_len 1 15 _ h1 (fun n hn => by
  obtain ⟨u, hu, rfl⟩ := List.mem_map.1 hn
  have := h2 u hu
  omega)
 simpa using this
theorem Fit.ctl {x : X} {hi hi2 : Int} (h : Fit x hi hi2) : x.ctl.length <= 1000 := by have := few h.nd h.ks; omega
theorem Fit.mono {x : X} {hi hi2 hi' hi2' : Int} (h : Fit x hi hi2) (h1 : hi <= hi') (h2 : hi2 <= hi2') (h3 : hi' - x.c.start % 16777216 <= 4000) (h4 : hi2' - x.c.start % 16777216 <= 8000000) : Fit x hi' hi2' :=
 ⟨h.nd, h.ks, by have := h.b1; omega, by have := h.b2; omega, fun e he => ⟨(h.ep e he).1.mono h1 h3, (h.ep e he).2.mono h2 h4⟩, h.st⟩
theorem Fit.ends {x : X} {hi hi2 : Int} (h : Fit x hi hi2) {y : Cn.SR} (hy : Cn.Ends x.conn y) : y.2.ends = true -> ∃ e lo hi, x.ep = some e ∧ Sf.Ok e.1 lo hi := fun e => by
 have h1 := h.st
 rw [hy.en e] at h1
 obtain ⟨p, hp⟩ := Option.isSome_iff_exists.1 h1
 exact ⟨p, _, _, hp, (h.ep p hp).1⟩
theorem ctl1_nd {l : List Cn.Pd} {u : Cn.Pd} (h : (l.map (·.kind)).Nodup) : ((ctl1 l u).map (·.kind)).Nodup := by
 unfold ctl1
 rw [List.map_append, List.nodup_append]
 refine ⟨?_, by simp, ?_⟩
 ·exact h.sublist (List.filter_sublist.map _)
 ·intro a ha b hb
  obtain ⟨v, hv, rfl⟩ := List.mem_map.1 ha
  have := (List.mem_filter.1 hv).2
  simp only [List.map_cons, List.map_nil, List.mem_singleton] at hb
  subst hb
  simpa using this
theorem ctl1_ks {l : List Cn.Pd} {u : Cn.Pd} (h : ∀ u ∈ l, 1 <= u.kind ∧ u.kind <= 15) (hu : 1 <= u.kind ∧ u.kind <= 15) : ∀ v ∈ ctl1 l u, 1 <= v.kind ∧ v.kind <= 15 := by
 intro v hv
 rcases List.mem_append.1 hv with hv | hv
 ·exact h v (List.mem_filter.1 hv).1
 ·rw [List.mem_singleton.1 hv]; exact hu
theorem ctls_ok : ∀ (us l : List Cn.Pd), (l.map (·.kind)).Nodup -> (∀ u ∈ l, 1 <= u.kind ∧ u.kind <= 15) -> (∀ u ∈ us, 1 <= u.kind ∧ u.kind <= 15) -> ((ctls l us).map (·.kind)).Nodup ∧ ∀ u ∈ ctls l us, 1 <= u.kind ∧ u.kind <= 15
 |[], l, h1, h2, _ => ⟨h1, h2⟩
 |u :: us, l, h1, h2, h3 => ctls_ok us (ctl1 l u) (ctl1_nd h1) (ctl1_ks h2 (h3 u (by simp))) (fun v hv => h3 v (by simp [hv]))
theorem bring1_k (x : X) (r : Cn.R) : (bring1 x r).ctl = ctls x.ctl r.units ∧ (bring1 x r).conn = x.conn ∧ (bring1 x r).ep = x.ep ∧ (bring1 x r).c = x.c := by
 unfold bring1 timed
 split
 ·exact ⟨rfl, rfl, rfl, rfl⟩
 ·split <;> exact ⟨rfl, rfl, rfl, rfl⟩
theorem bring_k (x : X) (r : Cn.R) : (bring x r).ctl = ctls x.ctl r.units ∧ (bring x r).conn = x.conn ∧ (bring x r).c = x.c ∧ (bring x r).ep = if r.begins then some (epoch x.c r.ms) else if r.ends then none else x.ep := by
 obtain ⟨h1, h2, h3, h4⟩ := bring1_k x r
 unfold bring bring2
 cases r.begins <;> cases r.ends
 ·exact ⟨h1, h2, h4, h3⟩
 ·exact ⟨h1, h2, h4, rfl⟩
 ·exact ⟨h1, h2, h4, by show some (epoch (bring1 x r).c r.ms) = _; rw [h4]; rfl⟩
 ·exact ⟨h1, h2, h4, by show some (epoch (bring1 x r).c r.ms) = _; rw [h4]; rfl⟩
theorem Fit.brought {x : X} {hi hi2 : Int} (h : Fit x hi hi2) {y : Cn.SR} (hy : Cn.Ends x.conn y) : Fit (En.brought x y).1 hi hi2 := by
 unfold En.brought
 obtain ⟨h1, h2, h3, h4⟩ := bring_k { x with conn := y.1 } y.2
 obtain ⟨c1, c2⟩ := ctls_ok y.2.units x.ctl h.nd h.ks hy.un
 have b1 := h.b1
 have b2 := h.b2
 refine ⟨by rw [h1]; exact c1, by rw [h1]; exact c2, by rw [h3]; exact b1, by rw [h3]; exact b2, fun e he => ?_, ?_⟩
 ·rw [h3]
  rw [h4] at he
  split at he
  ·injection he with he
   subst he
   exact ⟨(Sf.Ok.new _ _ _ hi b1.1 b1.2).opn _, Rf.Ok.new _ _ hi2 b2.1 b2.2⟩
  ·split at he
   ·cases he
   ·exact h.ep e he
 ·rw [h2, h4]
  show _ = (y.1.state == 10)
  rw [hy.st]
  have hs := h.st
  cases y.2.begins
  ·cases y.2.ends
   ·simpa using hs
   ·simp
  ·rfl
theorem brought_c (x : X) (y : Cn.SR) : (En.brought x y).1.c = x.c := (bring_k { x with conn := y.1 } y.2).2.2.1
theorem brought_sg (x : X) {y : Cn.SR} (hy : Cn.Ends x.conn y) : (En.brought x y).2.length <= 1000 := Nat.le_trans hy.sg (by decide)
theorem fail_ok {x : X} {hi hi2 : Int} (h : Fit x hi hi2) (code : Int) : Fit (En.fail x code).1 hi hi2 ∧ (En.fail x code).2.length <= 1000 := ⟨h.brought (Cn.fail_ends _ _), brought_sg x (Cn.fail_ends _ _)⟩
theorem again_sg (n : Int) : (again n).length <= 1000 := by unfold again; split <;> simp
theorem Fit.parts {x x' : X} {hi hi2 hi2' : Int} (h : Fit x hi hi2) (e : Sf.S × Rf.S) (h0 : x.ep.isSome = true) (h1 : x'.ctl = x.ctl) (h2 : x'.c = x.c) (h3 : x'.conn = x.conn) (h4 : x'.ep = some e) (h5 : Sf.Ok e.1 (x.c.start % 16777216) hi) (h6 : Rf.Ok e.2 (x.c.start % 16777216) hi2') (h7 : hi2 <= hi2') (h8 : hi2' - x.c.start % 16777216 <= 8000000) : Fit x' hi hi2' := by
 refine ⟨by rw [h1]; exact h.nd, by rw [h1]; exact h.ks, by rw [h2]; exact h.b1, by rw [h2]; have := h.b2; omega, fun e' he => ?_, ?_⟩
 ·rw [h4] at he
  injection he with he
  subst he
  rw [h2]
  exact ⟨h5, h6⟩
 ·rw [h3, h4, <- h.st, h0]
  rfl
theorem data_sg {r : Rf.S} {lo hi : Int} (h : Rf.Ok r lo hi) (n : Int) (d : ByteArray) (hh : hi + 64 - lo <= 8000000) : (Rf.data r n d).2.length <= 1000 := by
 have h1 := (h.data n d hh).2
 have h2 := h1.sum
 have h3 := h1.win
 have h4 := h1.hm
 have h5 := h1.rh
 have : (Rf.data r n d).2.length <= (Rf.data r n d).1.inbox.length := by
  unfold Rf.data
  split
  ·unfold Rf.deliver; simp
  ·simp
 omega
theorem transfer_ok {x : X} {hi hi2 : Int} (h : Fit x hi hi2) (hh : hi2 + 64 - x.c.start % 16777216 <= 8000000) {e : Sf.S × Rf.S} (he : x.ep = some e) (u : Cn.Pd) (l : List Int) : Fit (En.transfer x e u l).1 hi (hi2 + 64) ∧ (En.transfer x e u l).2.length <= 1000 := by
 obtain ⟨hs, hr⟩ := h.ep e he
 have h0 : x.ep.isSome = true := by rw [he]; rfl
 have up : ∀ {y : X × List Cn.Sig}, Fit y.1 hi hi2 ∧ y.2.length <= 1000 -> y.1.c = x.c -> Fit y.1 hi (hi2 + 64) ∧ y.2.length <= 1000 := fun hy hc => ⟨hy.1.mono (Int.le_refl _) (by omega) (by rw [hc]; exact h.b1.2) (by rw [hc]; exact hh), hy.2⟩
 have hf : ∀ code, Fit (En.fail x code).1 hi (hi2 + 64) ∧ (En.fail x code).2.length <= 1000 := fun code => up (fail_ok h code) (brought_c _ _)
 have hr2 := hr.mono (hi' := hi2 + 64) (by omega) hh
 unfold En.transfer
 split
 ·exact ⟨h.parts _ h0 rfl rfl rfl rfl hs (hr.data _ _ hh).2 (by omega) hh, by simpa using data_sg hr u.n u.data hh⟩
 ·split
  ·split
   ·exact ⟨h.parts _ h0 rfl rfl rfl rfl hs (hr2.poll _).2 (by omega) hh, by simp⟩
   ·exact hf 81
  ·split
   ·dsimp only
    split
    ·exact hf 82
    ·split
     ·exact hf 83
     ·exact ⟨h.parts _ h0 rfl rfl rfl rfl (hs.stat _ _ _ _) hr2 (by omega) hh, again_sg _⟩
   ·dsimp only
    split
    ·exact ⟨h.parts _ h0 rfl rfl rfl rfl (hs.ustat _ _ _) hr2 (by omega) hh, again_sg _⟩
    ·exact hf 84
theorem hear_ok {x : X} {hi hi2 : Int} (h : Fit x hi hi2) (hh : hi2 + 64 - x.c.start % 16777216 <= 8000000) (u : Cn.Pd) (l : List Int) : Fit (En.hear x u l).1 hi (hi2 + 64) ∧ (En.hear x u l).2.length <= 1000 := by
 have h2 : ∀ {y : X × List Cn.Sig}, Fit y.1 hi hi2 ∧ y.2.length <= 1000 -> y.1.c = x.c -> Fit y.1 hi (hi2 + 64) ∧ y.2.length <= 1000 := fun hy hc => ⟨hy.1.mono (Int.le_refl _) (by omega) (by rw [hc]; exact h.b1.2) (by rw [hc]; exact hh), hy.2⟩
 have hb := h2 ⟨h.brought (Cn.hear_ends _ u), brought_sg x (Cn.hear_ends _ u)⟩ (brought_c _ _)
 have hx : ∀ s : Cn.Sig, Fit (x, [s]).1 hi (hi2 + 64) ∧ (x, [s]).2.length <= 1000 := fun s => h2 ⟨h, by simp⟩ rfl
 unfold En.hear
 split
 ·exact hx _
 ·split
  ·exact hx _
  ·cases he : x.ep with
   |none => exact hb
   |some e =>
    simp only
    split
    ·exact transfer_ok h hh he u l
    ·exact hb
theorem Fit.credit {x : X} {hi hi2 : Int} (h : Fit x hi hi2) (l : List Cn.Sig) : Fit (En.credit x l).1 hi hi2 := ⟨h.nd, h.ks, h.b1, h.b2, h.ep, h.st⟩
theorem receive_ok {x : X} {hi hi2 : Int} (h : Fit x hi hi2) (hh : hi2 + 64 - x.c.start % 16777216 <= 8000000) (u : Cn.Pd) (l : List Int) : Fit (En.receive x u l).1 hi (hi2 + 64) := (hear_ok h hh u l).1.credit _
end En
namespace En
theorem putS_ok {x : X} {hi hi2 : Int} (h : Fit x hi hi2) (d : ByteArray) : Fit (putS x d).1 hi hi2 := by
 unfold putS
 cases he : x.ep with
 |none => exact h
 |some e =>
  have h0 : x.ep.isSome = true := by rw [he]; rfl
  simp only
  split
  ·exact h.parts _ h0 rfl rfl rfl rfl ((h.ep e he).1.put d) (h.ep e he).2 (Int.le_refl _) h.b2.2
  ·exact h
theorem take_ok {x : X} {hi hi2 : Int} (h : Fit x hi hi2) (m : Int) : Fit (take x m) hi hi2 := by
 unfold take
 cases he : x.ep with
 |none => exact h
 |some e =>
  have h0 : x.ep.isSome = true := by rw [he]; rfl
  exact h.parts _ h0 rfl rfl rfl rfl (h.ep e he).1 ((h.ep e he).2.take _) (Int.le_refl _) h.b2.2
theorem putU_ok {x : X} {hi hi2 : Int} (h : Fit x hi hi2) (u : Cn.Pd) : Fit (putU x u).1 hi hi2 := by
 unfold putU
 split
 ·exact ⟨h.nd, h.ks, h.b1, h.b2, h.ep, h.st⟩
 ·exact h
theorem ask_ok {x : X} {hi hi2 : Int} (h : Fit x hi hi2) (kd : Int) (d : ByteArray) (m : Int) : Fit (ask x kd d m).1 hi hi2 := by
 unfold ask
 repeat' split
 ·exact putS_ok h d
 ·exact putU_ok h _
 ·exact putU_ok h _
 ·exact take_ok h m
 ·exact ⟨h.nd, h.ks, h.b1, h.b2, h.ep, h.st⟩
 ·unfold askC
  split
  ·exact h.brought (Cn.ask_ends _ _ _)
  ·exact h
end En

namespace Pr
def Idl (s : Sf.S) : Prop := s.wait = [] ∧ s.kept = []
theorem idl_iff (s : Sf.S) : En.sIdle s = true ↔ Idl s := by
 unfold En.sIdle Idl
 simp
def b1 (b : Bool) : Int := if b then 1 else 0
theorem b1_bd (b : Bool) : 0 <= b1 b ∧ b1 b <= 1 := by cases b <;> decide
structure Dir (lo N : Int) (s : Sf.S) (r : Rf.S) (poll : Bool) : Prop where
 ok : Sf.Ok s lo (lo + N)
 rok : Rf.Ok r lo (lo + N)
 R : r.R = s.s
 H : r.H = s.s
 buf : r.buf = []
 inbox : r.inbox = []
 gaps : r.gaps = []
 mr : s.ms <= r.MR
 again : s.again = []
 psi : s.ps + s.units + (s.wait.length : Int) + b1 poll <= lo + N
 sw : s.s + (s.wait.length : Int) <= lo + N
section
variable {lo N : Int} {s : Sf.S} {r : Rf.S} {poll : Bool}
theorem Dir.n0 (h : Dir lo N s r poll) : 0 <= N ∧ N <= 4000 := by
 have h1 := h.ok.hl
 have h2 := h.ok.la
 have h3 := h.ok.klen
 have h4 := h.ok.shi
 omega
theorem Dir.mono {N' : Int} (h : Dir lo N s r poll) (h1 : N <= N') (h2 : N' <= 4000) : Dir lo N' s r poll :=
 ⟨h.ok.mono (by omega) (by omega), h.rok.mono (by omega) (by omega), h.R, h.H, h.buf, h.inbox, h.gaps, h.mr, h.again, by have := h.psi; omega, by have := h.sw; omega⟩
theorem pairs_no (h : Dir lo N s r poll) : En.pairs (Rf.renew r) = [] := by
 have : Rf.missing (Rf.renew r) = [] := by
  have h2 : (Rf.renew r).H - (Rf.renew r).R = 0 := by show r.H - r.R = 0; rw [h.R, h.H, Int.sub_self]
  unfold Rf.missing
  rw [h2]
  rfl
 unfold En.pairs En.spansOf
 rw [this]
 rfl
theorem gap_no (h : Dir lo N s r poll) : Rf.gap r = (r, 0, 0, false) := by
 unfold Rf.gap
 rw [h.gaps]
 unfold Rf.gapL
 rw [<- h.gaps]
theorem took_no (h : Dir lo N s r poll) (n : Int) : En.took r n = r := by
 unfold En.took
 rw [h.inbox, List.drop_nil]
 have := h.inbox
 cases r
 simp only at this
 rw [this]
theorem renew_MR (h : Dir lo N s r poll) : (Rf.renew r).MR = s.s + r.window := by
 show max r.MR (r.R + r.window - (r.inbox.length : Int)) = _
 have h1 := h.rok.sum
 have h2 := h.R
 rw [h.inbox] at h1 ⊢
 simp only [List.length_nil] at h1 ⊢
 omega
theorem Dir.polls (h : Dir lo N s r poll) (hp : poll = true ∨ s.polls <= s.units) : Dir lo N (Sf.poll s) r false ∧ Rf.pollOk r (s.s % 16777216) = true ∧ Rf.poll r (s.s % 16777216) = r := by
 have h1 := h.psi
 have h2 := h.ok.polls
 have h3 := h.ok.units
 have h4 := b1_bd poll
 have h5 := h.ok.pas
 have h6 := h.ok.lpa
 have h8 : Rf.at_ r (s.s % 16777216) = r.R := by
  unfold Rf.at_
  rw [h.R]
  omega
 have h9 := h.rok.hm
 have h10 : Rf.pollOk r (s.s % 16777216) = true := by
  unfold Rf.pollOk
  rw [h8, h.R, h.H, Bool.and_eq_true]
  exact ⟨decide_eq_true (Int.le_refl _), decide_eq_true (by rw [h.H] at h9; exact h9)⟩
 have h7 : 1 <= s.units + b1 poll := by
  rcases hp with rfl | hp
  ·show 1 <= s.units + 1; omega
  ·omega
 have hN := h.n0
 refine ⟨⟨?_, h.rok, h.R, h.H, h.buf, h.inbox, h.gaps, h.mr, h.again, ?_, h.sw⟩, h10, ?_⟩
 ·have a : Sf.Ok { s with units := 0 } lo (lo + N) := { h.ok with units := by show (0 : Int) <= 0 ∧ (0 : Int) <= lo + N - lo; omega }
  have hps : s.ps + 1 <= lo + N := by omega
  exact { a with pas := by show s.pa <= s.ps + 1; omega, phi := hps, lasts := fun v hv => by have := h.ok.lasts v hv; show lo <= v ∧ v <= s.ps + 1; omega }
 ·show s.ps + 1 + 0 + (s.wait.length : Int) + 0 <= _
  omega
 ·unfold Rf.poll
  rw [if_pos h10, h8]
  show Rf.S.mk r.R r.R r.MR r.window r.buf r.inbox r.gaps = r
  have e : Rf.S.mk r.R r.R r.MR r.window r.buf r.inbox r.gaps = Rf.S.mk r.R r.H r.MR r.window r.buf r.inbox r.gaps := congrArg (fun z => Rf.S.mk r.R z r.MR r.window r.buf r.inbox r.gaps) (h.R.trans h.H.symm)
  exact e
theorem Dir.data (h : Dir lo N s r poll) {v : ByteArray} {l : List ByteArray} (hw : s.wait = v :: l) (hm : s.s < s.ms) :
  Sf.next s = (Sf.fresh1 s v l, s.s, v, true, true) ∧ (Rf.data r (s.s % 16777216) v).2 = [v] ∧ Dir lo N (Sf.fresh1 s v l) (En.took (Rf.data r (s.s % 16777216) v).1 64) poll := by
 have hN := h.n0
 have h8 : Rf.at_ r (s.s % 16777216) = r.R := by
  unfold Rf.at_
  rw [h.R]
  omega
 have ht : Rf.takes r r.R = true := by
  unfold Rf.takes Rf.has
  rw [h.buf, Bool.and_eq_true]
  exact ⟨decide_eq_true (by have := h.mr; rw [h.R]; omega), rfl⟩
 have hlay : Rf.lay r r.R v = { r with buf := [(r.R, v)], H := r.R + 1 } := by
  unfold Rf.lay
  rw [h.buf, if_neg (by rw [h.R, h.H]; omega), h.H, h.R, show max s.s (s.s + 1) = s.s + 1 by omega]
  rfl
 have hdel : Rf.deliver (Rf.lay r r.R v) = ({ r with R := r.R + 1, buf := [], inbox := [v], H := r.R + 1 }, [v]) := by
  rw [hlay]
  unfold Rf.deliver
  have hd : Rf.dl 1 r.R [(r.R, v)] [] = (r.R + 1, [], [v]) := by
   unfold Rf.dl
   rw [mget_cons, if_pos rfl]
   unfold Rf.dl mdel
   simp
  show (Prod.mk _ _) = _
  simp only [List.length_cons, List.length_nil, hd, h.inbox, List.nil_append]
 have hdata : Rf.data r (s.s % 16777216) v = ({ r with R := r.R + 1, buf := [], inbox := [v], H := r.R + 1 }, [v]) := by
  unfold Rf.data
  rw [h8, if_pos ht, hdel]
 have hwl : (s.wait.length : Int) = l.length + 1 := by rw [hw]; simp
 have h1 := h.psi
 have h2 := h.sw
 have hR := h.R
 have hnext : Sf.next s = (Sf.fresh1 s v l, s.s, v, true, true) := by
  unfold Sf.next
  rw [h.again, hw]
  simp only
  rw [if_neg (by omega)]
 refine ⟨hnext, by rw [hdata], ?_⟩
 have hb := b1_bd poll
 have hpa := h.ok.pas
 have hlp := h.ok.lpa
 have hun := h.ok.units
 have hta : En.took (Rf.data r (s.s % 16777216) v).1 64 = { r with R := r.R + 1, buf := [], inbox := [], H := r.R + 1 } := by
  rw [hdata]
  rfl
 rw [hta]
 have hrok := h.rok
 have hsum := hrok.sum
 have hmr := h.mr
 rw [h.inbox] at hsum
 simp only [List.length_nil] at hsum
 refine ⟨?_, ⟨hrok.lo0, by show lo <= r.R + 1; have := hrok.lor; omega, by show r.R + 1 <= _; omega, by omega, Int.le_refl _, by show r.R + 1 <= r.MR; omega, by show r.MR - (r.R + 1) + (([] : List ByteArray).length : Int) <= r.window; simp only [List.length_nil]; omega, hrok.win, List.nodup_nil, (fun p hp => by cases hp), by show r.gaps.length <= 8; exact hrok.glen, (fun g hg => by
   have hg : g ∈ r.gaps := hg
   rw [h.gaps] at hg
   cases hg)⟩, by show r.R + 1 = s.s + 1; omega, by show r.R + 1 = s.s + 1; omega, rfl, rfl, h.gaps, h.mr, h.again, ?_, ?_⟩
 ·have a := h.ok
  refine { lo0 := a.lo0, hl := a.hl, la := a.la, shi := ?_, klen := ?_, llen := ?_, sms := ?_, msa := a.msa, lpa := a.lpa, pas := a.pas, phi := a.phi, lasts := ?_, sorted := a.sorted, ags := ?_, units := ?_, polls := a.polls, most := a.most, wlen := ?_ }
  ·show s.s + 1 <= _; omega
  ·show s.a + ((s.kept ++ [v]).length : Int) = s.s + 1; have := a.klen; simp only [List.length_append, List.length_cons, List.length_nil]; omega
  ·show (s.last ++ [s.ps]).length = (s.kept ++ [v]).length; simp [a.llen]
  ·show s.s + 1 <= s.ms; omega
  ·intro x hx
   rcases List.mem_append.1 hx with hx | hx
   ·exact a.lasts x hx
   ·rw [List.mem_singleton.1 hx]; show lo <= s.ps ∧ s.ps <= s.ps; omega
  ·show ∀ n ∈ s.again, _; rw [h.again]; intro n hn; cases hn
  ·show 0 <= s.units + 1 ∧ s.units + 1 <= _; omega
  ·show l.length <= s.most; have := a.wlen; omega
 ·show s.ps + (s.units + 1) + (l.length : Int) + b1 poll <= _
  omega
 ·show s.s + 1 + (l.length : Int) <= _
  omega
def acked (s : Sf.S) (m : Int) : Sf.S := { s with a := s.s, kept := [], last := [], pa := s.ps, ms := s.s + m }
theorem Dir.stat (h : Dir lo N s r poll) : Sf.stat s (r.R % 16777216) ((Rf.renew r).MR % 16777216) (s.ps % 16777216) [] = (acked s r.window, 0, 0) ∧ Dir lo N (acked s r.window) (Rf.renew r) poll := by
 have hN := h.n0
 have a := h.ok
 have hwin := h.rok.win
 have hMR := renew_MR h
 have hpa := a.pas
 have hlp := a.lpa
 have hphi := a.phi
 have hla := a.la
 have hshi := a.shi
 have hkl := a.klen
 have hp : Sf.pollAt s (s.ps % 16777216) = s.ps := by unfold Sf.pollAt; omega
 have ha : Sf.at_ s (r.R % 16777216) = s.s := by unfold Sf.at_; rw [h.R]; omega
 have hg : Sf.toldOk s (r.R % 16777216) [] = true := by
  unfold Sf.toldOk
  rw [ha, Bool.and_eq_true]
  refine ⟨decide_eq_true (Int.le_refl _), ?_⟩
  unfold Gp.okSet
  rw [Int.sub_self]
  rfl
 have hmr := h.mr
 have hsum := h.rok.sum
 rw [h.inbox] at hsum
 simp only [List.length_nil] at hsum
 have hack : Sf.ack s s.s = { s with a := s.s, kept := [], last := [], again := [] } := by
  have e1 : s.kept.drop (s.s - s.a).toNat = [] := List.drop_eq_nil_of_le (by omega)
  have e2 : s.last.drop (s.s - s.a).toNat = [] := List.drop_eq_nil_of_le (by have := a.llen; omega)
  unfold Sf.ack
  rw [e1, e2, h.again]
  rfl
 have hR := h.R
 have hopn : Sf.opn { Sf.ack s s.s with pa := s.ps } ((Rf.renew r).MR % 16777216) = { acked s r.window with again := [] } := by
  rw [hack, hMR]
  unfold Sf.opn
  have e : Sf.at_ { s with a := s.s, kept := [], last := [], again := [], pa := s.ps } ((s.s + r.window) % 16777216) = s.s + r.window := by
   unfold Sf.at_
   simp only
   omega
  rw [e]
  simp only
  rw [if_pos ⟨by omega, by omega⟩]
  rfl
 have hst : Sf.stat s (r.R % 16777216) ((Rf.renew r).MR % 16777216) (s.ps % 16777216) [] = (acked s r.window, 0, 0) := by
  unfold Sf.stat
  rw [hp, if_neg (by omega), if_neg (by rw [hg]; decide), ha, hopn]
  have e : Sf.rep { acked s r.window with again := [] } (some s.ps) (Sf.told s s.s []) = (acked s r.window, 0) := by
   have e1 : Sf.told s s.s [] = [] := rfl
   rw [e1]
   unfold Sf.rep Sf.merge Sf.nums Sf.more acked
   simp only [Int.sub_self]
   have h2 := h.again
   cases s
   simp only at h2
   rw [h2]
   rfl
  rw [e]
 refine ⟨hst, ⟨?_, h.rok.renew.2, h.R, h.H, h.buf, h.inbox, h.gaps, Int.le_of_eq hMR.symm, h.again, h.psi, h.sw⟩⟩
 refine { lo0 := a.lo0, hl := a.hl, la := ?_, shi := a.shi, klen := ?_, llen := rfl, sms := ?_, msa := ?_, lpa := ?_, pas := Int.le_refl _, phi := a.phi, lasts := (fun v hv => by cases hv), sorted := a.sorted, ags := ?_, units := a.units, polls := a.polls, most := a.most, wlen := a.wlen }
 ·show lo <= s.s; omega
 ·show s.s + (([] : List ByteArray).length : Int) = s.s; simp
 ·show s.s <= s.s + r.window; omega
 ·show s.s + r.window - s.s <= _; omega
 ·show lo <= s.ps; omega
 ·show ∀ n ∈ s.again, _; rw [h.again]; intro n hn; cases hn
theorem Dir.put (h : Dir lo N s r poll) (v : ByteArray) (hN : N + 1 <= 4000) : Dir lo (N + 1) (Sf.put s v) r poll := by
 have h1 := h.psi
 have h2 := h.sw
 unfold Sf.put
 split
 ·rename_i hl
  have a := (h.mono (by omega) hN : Dir lo (N + 1) s r poll)
  refine ⟨?_, a.rok, a.R, a.H, a.buf, a.inbox, a.gaps, a.mr, a.again, ?_, ?_⟩
  ·have b := a.ok.put v
   unfold Sf.put at b
   rw [if_pos hl] at b
   exact b
  ·show s.ps + s.units + ((s.wait ++ [v]).length : Int) + b1 poll <= _
   simp only [List.length_append, List.length_cons, List.length_nil]
   omega
  ·show s.s + ((s.wait ++ [v]).length : Int) <= _
   simp only [List.length_append, List.length_cons, List.length_nil]
   omega
 ·exact h.mono (by omega) hN
theorem Dir.polled (h : Dir lo N s r false) (hN : N + 1 <= 4000) (b : Bool) : Dir lo (N + 1) s r b := by
 have a := (h.mono (by omega) hN : Dir lo (N + 1) s r false)
 refine ⟨a.ok, a.rok, a.R, a.H, a.buf, a.inbox, a.gaps, a.mr, a.again, ?_, a.sw⟩
 have h1 := h.psi
 have h2 := b1_bd b
 have h3 : b1 false = 0 := rfl
 omega
end
end Pr
end Go.Proofs.YtnenaemincfgpaaGreat

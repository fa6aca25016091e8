/-
  node, plain: what an end is, and what each call makes of it. No program is named · node, plain: what an end is between two calls (Fit), and that each call keeps it. No program is named · node, plain: what a request keeps. No program is named.
-/
import Derived.Test.YtipaobpmojahaaaGreatNdO
import Derived.Test.YtipaobpmojahaaaGreatEnQ
import Derived.Test.YtipaobpmojahaaaGreatPace2
import Derived.Test.YtipaobpmojahaaaGreatRf
import Derived.Test.YtipaobpmojahaaaGreatSndD
import Derived.Test.YtipaobpmojahaaaGreatEvD
namespace Go.Proofs.YtipaobpmojahaaaGreat
namespace En
/-- An end: its config, its connection, its timers, what goes out, what was left, what is due, and its epoch, if there is one. -/
structure X where
  c : Nd.C
  conn : Cn.S
  tm : List Int
  ctl : List Cn.Pd
  units : List Cn.Pd
  left : List ByteArray
  poll : Bool
  stat : Bool
  asked : Int
  lacks : Bool
  ep : Option (Sf.S × Rf.S)
def new (c : Nd.C) : X := ⟨c, Cn.new c.most ((c.start + c.window) % 16777216), [0, 0, 0, 0, 0], [], [], [], false, false, 0, false, none⟩
def ready (x : X) : Bool := x.ep.isSome
def sIdle (s : Sf.S) : Bool := decide (s.wait.length = 0) && decide (s.kept.length = 0)
def idle (x : X) : Bool := match x.ep with
  | none => true
  | some e => sIdle e.1
def ctl1 (l : List Cn.Pd) (u : Cn.Pd) : List Cn.Pd := (l.filter fun x => !(x.kind == u.kind)) ++ [u]
def ctls (l us : List Cn.Pd) : List Cn.Pd := us.foldl ctl1 l
def timed (x : X) (t : Int) : X := if t = 1 then { x with tm := Tm.start x.tm 0 x.c.cc } else if t = 2 then { x with tm := Tm.stop x.tm 0 } else x
def over (x : X) : X := { x with poll := false, stat := false }
def leftOf (x : X) : List ByteArray := match x.ep with
  | none => []
  | some e => e.1.kept ++ e.1.wait
def ended (x : X) : X := over { x with tm := Pc.end_ x.tm, left := leftOf x, ep := none }
def epoch (c : Nd.C) (ms : Int) : Sf.S × Rf.S := (Sf.opn (Sf.new c.start c.queue c.polls) ms, Rf.new c.start c.window)
def begun (x : X) (ms : Int) : X := over { x with ep := some (epoch x.c ms), tm := Pc.begin_ x.tm x.c.poll x.c.silent }
def bring1 (x : X) (r : Cn.R) : X := timed { x with ctl := ctls x.ctl r.units } r.timer
def bring2 (x : X) (r : Cn.R) : X := if r.ends then ended (bring1 x r) else bring1 x r
def bring (x : X) (r : Cn.R) : X := if r.begins then begun (bring2 x r) r.ms else bring2 x r
/-- What a connection's call brings. -/
def brought (x : X) (y : Cn.SR) : X × List Cn.Sig := (bring { x with conn := y.1 } y.2, y.2.sigs)
def lack (x : X) : Bool := match x.ep with
  | none => false
  | some e => decide (0 < e.1.wait.length) && (e.1.s == e.1.ms)
def rep (code n : Int) : Cn.Sig := ⟨12, Cn.no, false, code, n⟩
def credit (x : X) (l : List Cn.Sig) : X × List Cn.Sig :=
  ({ x with lacks := lack x }, if lack x && !x.lacks then l ++ [rep 87 0] else if (x.lacks && !lack x) && ready x then l ++ [rep 88 0] else l)
def msg (kind : Int) (d : ByteArray) : Cn.Sig := ⟨kind, d, false, 0, 0⟩
def umsg (kind : Int) (d : ByteArray) : Cn.Pd := ⟨kind, 0, 0, 0, 0, none, 0, 0, false, d⟩
def putS (x : X) (d : ByteArray) : X × List Cn.Sig × Int := match x.ep with
  | none => (x, [], 8)
  | some e => if e.1.wait.length < e.1.most then ({ x with ep := some (Sf.put e.1 d, e.2), tm := Pc.busy x.tm x.c.poll x.c.silent }, [], 0) else (x, [], 7)
def putU (x : X) (u : Cn.Pd) : X × List Cn.Sig × Int := if (x.units.length : Int) < x.c.units then ({ x with units := x.units ++ [u] }, [], 0) else (x, [], 7)
def took (r : Rf.S) (n : Int) : Rf.S := { r with inbox := r.inbox.drop (max 0 (min n (r.inbox.length : Int))).toNat }
def take (x : X) (n : Int) : X := match x.ep with
  | none => x
  | some e => { x with ep := some (e.1, took e.2 n) }
def askC (x : X) (kind : Int) (d : ByteArray) : X × List Cn.Sig × Int :=
  if Cn.askErr x.conn kind d = 0 then let y := brought x (Cn.askS x.conn kind d); (y.1, y.2, 0) else (x, [], Cn.askErr x.conn kind d)
def ask (x : X) (kind : Int) (d : ByteArray) (n : Int) : X × List Cn.Sig × Int :=
  if kind = 7 then putS x d
  else if kind = 8 then putU x (umsg 13 d)
  else if kind = 9 then putU x (umsg 14 d)
  else if kind = 10 then (take x n, [], 0)
  else if kind = 11 then ({ x with left := [] }, x.left.map (msg 11), 0)
  else askC x kind d
def request (x : X) (kind : Int) (d : ByteArray) (n : Int) : X × List Cn.Sig × Int :=
  if Ev.err kind d n = 0 then
    if Ru.may x.conn.state kind then
      let y := ask x kind d n
      if y.2.2 = 0 then let z := credit y.1 y.2.1; (z.1, z.2, 0) else (y.1, [], y.2.2)
    else (x, [], 8)
  else (x, [], Ev.err kind d n)
def fail (x : X) (code : Int) : X × List Cn.Sig := brought x (Cn.failS x.conn code)
def again (count : Int) : List Cn.Sig := if count = 0 then [] else [rep 86 count]
/-- What a unit that has a list brings. -/
def transfer (x : X) (e : Sf.S × Rf.S) (u : Cn.Pd) (l : List Int) : X × List Cn.Sig :=
  if u.kind = 8 then let d := Rf.data e.2 u.n u.data; ({ x with ep := some (e.1, d.1) }, d.2.map (msg 8))
  else if u.kind = 10 then
    if Rf.pollOk e.2 u.n then ({ x with ep := some (e.1, Rf.poll e.2 u.n), stat := true, asked := u.ps }, []) else fail x 81
  else if u.kind = 11 then
    let y := Sf.stat e.1 u.n u.mr u.ps l
    if y.2.2 = 12 then fail x 82
    else if y.2.2 = 13 then fail x 83
    else ({ x with ep := some (y.1, e.2), tm := Pc.answered x.tm x.c.silent x.c.idle (sIdle y.1) }, again y.2.1)
  else
    let y := Sf.ustat e.1 u.n u.mr l
    if y.2.2 = 0 then ({ x with ep := some (y.1, e.2) }, again y.2.1) else fail x 84
def ofEp (kind : Int) : Bool := kind == 8 || kind == 10 || kind == 11 || kind == 12
def hear (x : X) (u : Cn.Pd) (l : List Int) : X × List Cn.Sig :=
  if u.kind = 13 then (x, [msg 9 u.data])
  else if u.kind = 14 then (x, [msg 10 u.data])
  else match x.ep with
    | none => brought x (Cn.hearS x.conn u)
    | some e => if ofEp u.kind then transfer x e u l else brought x (Cn.hearS x.conn u)
def receive (x : X) (u : Cn.Pd) (l : List Int) : X × List Cn.Sig := let y := hear x u l; credit y.1 y.2
/-- A timer that is over. -/
def due (x : X) (t : Int) : X × List Cn.Sig :=
  if t = 0 then brought x (Cn.expireS x.conn)
  else if t = 3 then brought x (Cn.silentS x.conn)
  else ({ x with poll := x.poll || ready x }, [])
def dues : List Int → X × List Cn.Sig → X × List Cn.Sig
  | [], y => y
  | t :: r, y => let z := due y.1 t; dues r (z.1, y.2 ++ z.2)
def tick (x : X) : X × List Cn.Sig := let y := dues (Tm.over x.tm) ({ x with tm := Tm.tick x.tm }, []); credit y.1 y.2
def spansOf (r : Rf.S) : List (Int × Int) := (Rf.missing r).foldl (fun out n => Sp.mergeStep out (n - r.R, n - r.R + 1)) []
def pairs (r : Rf.S) : List Int := Gp.gl (r.R % 16777216) (spansOf r)
def numed (kind n ps mr : Int) (data : ByteArray) : Cn.Pd := ⟨kind, 0, n, ps, mr, none, 0, 0, false, data⟩
/-- What goes out next, and its list. -/
def next (x : X) : X × Option (Cn.Pd × List Int) :=
  match x.ctl with
  | u :: r => ({ x with ctl := r }, some (u, []))
  | [] => match x.units with
    | u :: r => ({ x with units := r }, some (u, []))
    | [] => match x.ep with
      | none => (x, none)
      | some (s, r) =>
        if x.stat then
          let r' := Rf.renew r
          ({ x with stat := false, ep := some (s, r') }, some (numed 11 (r'.R % 16777216) x.asked (r'.MR % 16777216) Cn.no, pairs r'))
        else
          let g := Rf.gap r
          if g.2.2.2 then ({ x with ep := some (s, g.1) }, some (numed 12 (g.1.R % 16777216) 0 (g.1.MR % 16777216) Cn.no, [g.2.1 % 16777216, g.2.2.1 % 16777216]))
          else if x.poll || decide (s.polls ≤ s.units) then
            ({ x with poll := false, ep := some (Sf.poll s, g.1), tm := Pc.polled x.tm x.c.poll x.c.keep x.c.silent (sIdle s) }, some (numed 10 (s.s % 16777216) ((s.ps + 1) % 16777216) 0 Cn.no, []))
          else
            let n := Sf.next s
            ({ x with ep := some (n.1, g.1) }, if n.2.2.2.2 then some (numed 8 (n.2.1 % 16777216) 0 0 n.2.2.1, []) else none)
def quiet (x : X) : Bool := decide (x.ctl.length = 0) && decide (x.units.length = 0) && !x.poll && !x.stat && match x.ep with
  | none => true
  | some e => sIdle e.1 && decide (e.2.gaps.length = 0)
end En
namespace En
/-- What an end may be between two calls: its epoch's numbers are within bounds, and it is there just in Ready. -/
structure Fit (x : X) (hi hi2 : Int) : Prop where
  nd : (x.ctl.map (·.kind)).Nodup
  ks : ∀ u ∈ x.ctl, 1 ≤ u.kind ∧ u.kind ≤ 15
  b1 : x.c.start % 16777216 ≤ hi ∧ hi - x.c.start % 16777216 ≤ 4000
  b2 : x.c.start % 16777216 ≤ hi2 ∧ hi2 - x.c.start % 16777216 ≤ 8000000
  ep : ∀ e, x.ep = some e → Sf.Ok e.1 (x.c.start % 16777216) hi ∧ Rf.Ok e.2 (x.c.start % 16777216) hi2
  st : x.ep.isSome = (x.conn.state == 10)
theorem few {l : List Cn.Pd} (h1 : (l.map (·.kind)).Nodup) (h2 : ∀ u ∈ l, 1 ≤ u.kind ∧ u.kind ≤ 15) : l.length ≤ 15 := by
  have := Rf.nodup_len 1 15 _ h1 (fun n hn => by
    obtain ⟨u, hu, rfl⟩ := List.mem_map.1 hn
    have := h2 u hu
    omega)
  simpa using this
theorem Fit.ctl {x : X} {hi hi2 : Int} (h : Fit x hi hi2) : x.ctl.length ≤ 1000 := by have := few h.nd h.ks; omega
theorem Fit.mono {x : X} {hi hi2 hi' hi2' : Int} (h : Fit x hi hi2) (h1 : hi ≤ hi') (h2 : hi2 ≤ hi2') (h3 : hi' - x.c.start % 16777216 ≤ 4000) (h4 : hi2' - x.c.start % 16777216 ≤ 8000000) : Fit x hi' hi2' :=
  ⟨h.nd, h.ks, by have := h.b1; omega, by have := h.b2; omega, fun e he => ⟨(h.ep e he).1.mono h1 h3, (h.ep e he).2.mono h2 h4⟩, h.st⟩
theorem Fit.ends {x : X} {hi hi2 : Int} (h : Fit x hi hi2) {y : Cn.SR} (hy : Cn.Ends x.conn y) : y.2.ends = true → ∃ e lo hi, x.ep = some e ∧ Sf.Ok e.1 lo hi := fun e => by
  have h1 := h.st
  rw [hy.en e] at h1
  obtain ⟨p, hp⟩ := Option.isSome_iff_exists.1 h1
  exact ⟨p, _, _, hp, (h.ep p hp).1⟩
theorem ctl1_nd {l : List Cn.Pd} {u : Cn.Pd} (h : (l.map (·.kind)).Nodup) : ((ctl1 l u).map (·.kind)).Nodup := by
  unfold ctl1
  rw [List.map_append, List.nodup_append]
  refine ⟨?_, by simp, ?_⟩
  · exact h.sublist (List.filter_sublist.map _)
  · intro a ha b hb
    obtain ⟨v, hv, rfl⟩ := List.mem_map.1 ha
    have := (List.mem_filter.1 hv).2
    simp only [List.map_cons, List.map_nil, List.mem_singleton] at hb
    subst hb
    simpa using this
theorem ctl1_ks {l : List Cn.Pd} {u : Cn.Pd} (h : ∀ u ∈ l, 1 ≤ u.kind ∧ u.kind ≤ 15) (hu : 1 ≤ u.kind ∧ u.kind ≤ 15) : ∀ v ∈ ctl1 l u, 1 ≤ v.kind ∧ v.kind ≤ 15 := by
  intro v hv
  rcases List.mem_append.1 hv with hv | hv
  · exact h v (List.mem_filter.1 hv).1
  · rw [List.mem_singleton.1 hv]; exact hu
theorem ctls_ok : ∀ (us l : List Cn.Pd), (l.map (·.kind)).Nodup → (∀ u ∈ l, 1 ≤ u.kind ∧ u.kind ≤ 15) → (∀ u ∈ us, 1 ≤ u.kind ∧ u.kind ≤ 15) → ((ctls l us).map (·.kind)).Nodup ∧ ∀ u ∈ ctls l us, 1 ≤ u.kind ∧ u.kind ≤ 15
  | [], l, h1, h2, _ => ⟨h1, h2⟩
  | u :: us, l, h1, h2, h3 => ctls_ok us (ctl1 l u) (ctl1_nd h1) (ctl1_ks h2 (h3 u (by simp))) (fun v hv => h3 v (by simp [hv]))
theorem bring1_k (x : X) (r : Cn.R) : (bring1 x r).ctl = ctls x.ctl r.units ∧ (bring1 x r).conn = x.conn ∧ (bring1 x r).ep = x.ep ∧ (bring1 x r).c = x.c := by
  unfold bring1 timed
  split
  · exact ⟨rfl, rfl, rfl, rfl⟩
  · split <;> exact ⟨rfl, rfl, rfl, rfl⟩
theorem bring_k (x : X) (r : Cn.R) : (bring x r).ctl = ctls x.ctl r.units ∧ (bring x r).conn = x.conn ∧ (bring x r).c = x.c ∧ (bring x r).ep = if r.begins then some (epoch x.c r.ms) else if r.ends then none else x.ep := by
  obtain ⟨h1, h2, h3, h4⟩ := bring1_k x r
  unfold bring bring2
  cases r.begins <;> cases r.ends
  · exact ⟨h1, h2, h4, h3⟩
  · exact ⟨h1, h2, h4, rfl⟩
  · exact ⟨h1, h2, h4, by show some (epoch (bring1 x r).c r.ms) = _; rw [h4]; rfl⟩
  · exact ⟨h1, h2, h4, by show some (epoch (bring1 x r).c r.ms) = _; rw [h4]; rfl⟩
theorem Fit.brought {x : X} {hi hi2 : Int} (h : Fit x hi hi2) {y : Cn.SR} (hy : Cn.Ends x.conn y) : Fit (En.brought x y).1 hi hi2 := by
  unfold En.brought
  obtain ⟨h1, h2, h3, h4⟩ := bring_k { x with conn := y.1 } y.2
  obtain ⟨c1, c2⟩ := ctls_ok y.2.units x.ctl h.nd h.ks hy.un
  have b1 := h.b1
  have b2 := h.b2
  refine ⟨by rw [h1]; exact c1, by rw [h1]; exact c2, by rw [h3]; exact b1, by rw [h3]; exact b2, fun e he => ?_, ?_⟩
  · rw [h3]
    rw [h4] at he
    split at he
    · injection he with he
      subst he
      exact ⟨(Sf.Ok.new _ _ _ hi b1.1 b1.2).opn _, Rf.Ok.new _ _ hi2 b2.1 b2.2⟩
    · split at he
      · cases he
      · exact h.ep e he
  · rw [h2, h4]
    show _ = (y.1.state == 10)
    rw [hy.st]
    have hs := h.st
    cases y.2.begins
    · cases y.2.ends
      · simpa using hs
      · simp
    · rfl
theorem brought_sg (x : X) {y : Cn.SR} (hy : Cn.Ends x.conn y) : (En.brought x y).2.length ≤ 1000 := Nat.le_trans hy.sg (by decide)
/-- An epoch of which only the parts change. -/
theorem Fit.parts {x x' : X} {hi hi2 hi2' : Int} (h : Fit x hi hi2) (e : Sf.S × Rf.S) (h0 : x.ep.isSome = true) (h1 : x'.ctl = x.ctl) (h2 : x'.c = x.c) (h3 : x'.conn = x.conn) (h4 : x'.ep = some e) (h5 : Sf.Ok e.1 (x.c.start % 16777216) hi) (h6 : Rf.Ok e.2 (x.c.start % 16777216) hi2') (h7 : hi2 ≤ hi2') (h8 : hi2' - x.c.start % 16777216 ≤ 8000000) : Fit x' hi hi2' := by
  refine ⟨by rw [h1]; exact h.nd, by rw [h1]; exact h.ks, by rw [h2]; exact h.b1, by rw [h2]; have := h.b2; omega, fun e' he => ?_, ?_⟩
  · rw [h4] at he
    injection he with he
    subst he
    rw [h2]
    exact ⟨h5, h6⟩
  · rw [h3, h4, ← h.st, h0]
    rfl
theorem Fit.credit {x : X} {hi hi2 : Int} (h : Fit x hi hi2) (l : List Cn.Sig) : Fit (En.credit x l).1 hi hi2 := ⟨h.nd, h.ks, h.b1, h.b2, h.ep, h.st⟩
end En
namespace En
theorem putS_ok {x : X} {hi hi2 : Int} (h : Fit x hi hi2) (d : ByteArray) : Fit (putS x d).1 hi hi2 := by
  unfold putS
  cases he : x.ep with
  | none => exact h
  | some e =>
    have h0 : x.ep.isSome = true := by rw [he]; rfl
    simp only
    split
    · exact h.parts _ h0 rfl rfl rfl rfl ((h.ep e he).1.put d) (h.ep e he).2 (Int.le_refl _) h.b2.2
    · exact h
theorem take_ok {x : X} {hi hi2 : Int} (h : Fit x hi hi2) (m : Int) : Fit (take x m) hi hi2 := by
  unfold take
  cases he : x.ep with
  | none => exact h
  | some e =>
    have h0 : x.ep.isSome = true := by rw [he]; rfl
    exact h.parts _ h0 rfl rfl rfl rfl (h.ep e he).1 ((h.ep e he).2.take _) (Int.le_refl _) h.b2.2
theorem putU_ok {x : X} {hi hi2 : Int} (h : Fit x hi hi2) (u : Cn.Pd) : Fit (putU x u).1 hi hi2 := by
  unfold putU
  split
  · exact ⟨h.nd, h.ks, h.b1, h.b2, h.ep, h.st⟩
  · exact h
theorem ask_ok {x : X} {hi hi2 : Int} (h : Fit x hi hi2) (kd : Int) (d : ByteArray) (m : Int) : Fit (ask x kd d m).1 hi hi2 := by
  unfold ask
  repeat' split
  · exact putS_ok h d
  · exact putU_ok h _
  · exact putU_ok h _
  · exact take_ok h m
  · exact ⟨h.nd, h.ks, h.b1, h.b2, h.ep, h.st⟩
  · unfold askC
    split
    · exact h.brought (Cn.ask_ends _ _ _)
    · exact h
end En
end Go.Proofs.YtipaobpmojahaaaGreat

/-
  The document's sender, with numbers that go on for ever, and what it is to the program's. Plain: no program is named but the sender's plain form · polliwogref11.Send: what it is in memory · send.Send: Due, Poll, Next of what goes again.
-/
import Derived.Test.YtipaobpmojahaaaGreatSnd
import Derived.Test.YtipaobpmojahaaaGreatRf
import Derived.Test.YtipaobpmojahaaaGreatCnP
import Derived.Maps.RangeWalk
import Derived.Test.YtipaobpmojahaaaGreatEvD
import Derived.Test.YtipaobpmojahaaaGreatOp6
import Derived.Deep.DeepCutAuto
import Derived.Deep.QuietTactic
import Derived.BigQuiet
import Derived.StillTailTactics
import Derived.Shelf.SlSortCmp.WholeK
import Derived.Shelf.SlLaysF0
import Derived.Shelf.SlLaysF
import Derived.Shelf.SlLaysC2
import Derived.Shelf.SlicesG.Cmp
import Derived.Shelf.Small.Bits
import Derived.Test.YtipaobpmojahaaaGreatProg
import Derived.Shelf.GgSortFunc.InsertionK
import Derived.RegionTactic
import Derived.ChangeAlike
import Derived.Test.YtipaobpmojahaaaGreatSpanP
import Derived.Lib.SliceRun
import Derived.Test.YtipaobpmojahaaaGreatRow2
namespace Go.Proofs.YtipaobpmojahaaaGreat

namespace Sf
structure S where
  s : Int
  a : Int
  ms : Int
  ps : Int
  pa : Int
  units : Int
  polls : Int
  most : Nat
  wait : List ByteArray
  kept : List ByteArray
  last : List Int
  again : List Int

def new (start queue polls : Int) : S :=
  { s := start % 16777216, a := start % 16777216, ms := start % 16777216, ps := start % 16777216, pa := start % 16777216, units := 0, polls := max 1 (min polls 256), most := (max 1 (min queue 256)).toNat, wait := [], kept := [], last := [], again := [] }
def at_ (x : S) (n : Int) : Int := x.a + (n - x.a) % 16777216
def opn (x : S) (ms : Int) : S := if (ms - x.a) % 16777216 ≤ 8388608 ∧ x.ms ≤ at_ x ms then { x with ms := at_ x ms } else x
def put (x : S) (v : ByteArray) : S := if x.wait.length < x.most then { x with wait := x.wait ++ [v] } else x
def repeat1 (x : S) (n : Int) (r : List Int) : S := { x with again := r, last := x.last.set (n - x.a).toNat x.ps, units := x.units + 1 }
def fresh1 (x : S) (v : ByteArray) (r : List ByteArray) : S := { x with wait := r, kept := x.kept ++ [v], last := x.last ++ [x.ps], s := x.s + 1, units := x.units + 1 }
/-- The sender, the number, the message, is it new, does anything go out? -/
def next (x : S) : S × Int × ByteArray × Bool × Bool :=
  match x.again with
  | n :: r => (repeat1 x n r, n, x.kept.getD (n - x.a).toNat default, false, true)
  | [] => match x.wait with
    | [] => (x, 0, "".toUTF8, false, false)
    | v :: r => if x.ms ≤ x.s then (x, 0, "".toUTF8, false, false) else (fresh1 x v r, x.s, v, true, true)
def poll (x : S) : S := { x with ps := x.ps + 1, units := 0 }
/-- All ahead of r. -/
def ack (x : S) (r : Int) : S := { x with kept := x.kept.drop (r - x.a).toNat, last := x.last.drop (r - x.a).toNat, a := r, again := x.again.filter fun n => decide (r ≤ n) }
def told (_x : S) (r : Int) (l : List Int) : List Int := Sp.nums (Gp.prs (Gp.ats r l))
/-- May a number go again, by a poll's answer (none: by a gap)? -/
def may (x : S) (p : Option Int) (n : Int) : Bool := match p with
  | none => true
  | some p => decide (x.last.getD (n - x.a).toNat 0 < p) && decide (p - x.last.getD (n - x.a).toNat 0 < 8388608)
def more (x : S) (p : Option Int) (l : List Int) : List Int := (l.map fun i => x.a + i).filter fun n => may x p n && !decide (n ∈ x.again)
def nums (x : S) : List Int := (List.range (x.s - x.a).toNat).map fun i : Nat => x.a + (i : Int)
def merge (x : S) (m : List Int) : List Int := (nums x).filter fun n => decide (n ∈ x.again) || decide (n ∈ m)
def rep (x : S) (p : Option Int) (l : List Int) : S × Int := ({ x with again := merge x (more x p l) }, ((more x p l).length : Int))
def pollAt (x : S) (ps : Int) : Int := x.pa + (ps - x.pa) % 16777216
def toldOk (x : S) (r : Int) (l : List Int) : Bool := decide (at_ x r ≤ x.s) && Gp.okSet (at_ x r) x.s l
def stat (x : S) (r mr ps : Int) (l : List Int) : S × Int × Int :=
  if x.ps < pollAt x ps then (x, 0, 12) else if toldOk x r l = false then (x, 0, 13) else
    let y := rep (opn { ack x (at_ x r) with pa := pollAt x ps } mr) (some (pollAt x ps)) (told x (at_ x r) l)
    (y.1, y.2, 0)
def ustat (x : S) (r mr : Int) (l : List Int) : S × Int × Int :=
  if toldOk x r l = false then (x, 0, 14) else
    let y := rep (opn (ack x (at_ x r)) mr) none (told x (at_ x r) l)
    (y.1, y.2, 0)

/-- What is kept, by its numbers. -/
def pm : Int → List ByteArray → List Int → List (Int × (ByteArray × Int))
  | a, v :: ks, p :: ls => (a % 16777216, (v, p % 16777216)) :: pm (a + 1) ks ls
  | _, _, _ => []
def pa (l : List Int) : List Int := l.map fun n => n % 16777216
/-- The program's sender of the document's. -/
def prog (x : S) : Sd.S := ⟨x.s % 16777216, x.a % 16777216, x.ms % 16777216, x.ps % 16777216, x.pa % 16777216, x.units, x.polls, x.most, x.wait, pm x.a x.kept x.last, pa x.again⟩

/-- What stays, whatever comes; what went out has numbers from lo to hi. -/
structure Ok (x : S) (lo hi : Int) : Prop where
  lo0 : 0 ≤ lo ∧ lo < 16777216
  hl : hi - lo ≤ 4000
  la : lo ≤ x.a
  shi : x.s ≤ hi
  klen : x.a + (x.kept.length : Int) = x.s
  llen : x.last.length = x.kept.length
  sms : x.s ≤ x.ms
  msa : x.ms - x.a ≤ 8388608
  lpa : lo ≤ x.pa
  pas : x.pa ≤ x.ps
  phi : x.ps ≤ hi
  lasts : ∀ v ∈ x.last, lo ≤ v ∧ v ≤ x.ps
  sorted : x.again.Pairwise (· < ·)
  ags : ∀ n ∈ x.again, x.a ≤ n ∧ n < x.s
  units : 0 ≤ x.units ∧ x.units ≤ hi - lo
  polls : 1 ≤ x.polls ∧ x.polls ≤ 256
  most : 1 ≤ x.most ∧ x.most ≤ 256
  wlen : x.wait.length ≤ x.most

theorem Ok.new (start queue polls hi : Int) (h1 : start % 16777216 ≤ hi) (h2 : hi - start % 16777216 ≤ 4000) : Ok (new start queue polls) (start % 16777216) hi where
  lo0 := by omega
  hl := h2
  la := Int.le_refl _
  shi := h1
  klen := by show start % 16777216 + (([] : List ByteArray).length : Int) = start % 16777216; simp
  llen := rfl
  sms := Int.le_refl _
  msa := by show start % 16777216 - start % 16777216 ≤ _; omega
  lpa := Int.le_refl _
  pas := Int.le_refl _
  phi := h1
  lasts := fun v hv => by cases hv
  sorted := List.Pairwise.nil
  ags := fun v hv => by cases hv
  units := by show (0 : Int) ≤ 0 ∧ (0 : Int) ≤ _; omega
  polls := by show 1 ≤ max 1 (min polls 256) ∧ max 1 (min polls 256) ≤ 256; omega
  most := by show 1 ≤ (max 1 (min queue 256)).toNat ∧ (max 1 (min queue 256)).toNat ≤ 256; omega
  wlen := by show ([] : List ByteArray).length ≤ _; simp
theorem Ok.mono {x : S} {lo hi hi' : Int} (h : Ok x lo hi) (h1 : hi ≤ hi') (h2 : hi' - lo ≤ 4000) : Ok x lo hi' :=
  { h with hl := h2, shi := Int.le_trans h.shi h1, phi := Int.le_trans h.phi h1, units := ⟨h.units.1, by have := h.units.2; omega⟩ }
theorem prog_new (start queue polls : Int) : Sd.new start queue polls = prog (new start queue polls) := by
  unfold Sd.new prog new pm pa
  simp

/-! What is kept, as a list by numbers. -/
theorem pm_len : ∀ (a : Int) (ks : List ByteArray) (ls : List Int), ls.length = ks.length → (pm a ks ls).length = ks.length
  | _, [], [], _ => rfl
  | a, v :: ks, p :: ls, h => by
    have := pm_len (a + 1) ks ls (by simpa using h)
    simp [pm, this]
  | _, [], _ :: _, h => by simp at h
  | _, _ :: _, [], h => by simp at h
theorem pm_get : ∀ (a : Int) (ks : List ByteArray) (ls : List Int) (j : Nat), ls.length = ks.length → ks.length ≤ 8000 → j < ks.length → mget (pm a ks ls) ((a + (j : Int)) % 16777216) = some (ks.getD j default, ls.getD j 0 % 16777216)
  | a, v :: ks, p :: ls, 0, h, hk, _ => by
    unfold pm
    rw [mget_cons, if_pos (by simp)]
    rfl
  | a, v :: ks, p :: ls, j + 1, h, hk, hj => by
    have hk' : ks.length + 1 ≤ 8000 := by simpa using hk
    have hj' : j + 1 < ks.length + 1 := by simpa using hj
    have ih := pm_get (a + 1) ks ls j (by simpa using h) (by omega) (by omega)
    unfold pm
    rw [mget_cons, if_neg (by simp only; omega), show a + ((j + 1 : Nat) : Int) = a + 1 + (j : Int) by omega, ih]
    simp
  | _, [], [], j, _, _, hj => by simp at hj
  | _, [], _ :: _, _, h, _, _ => by simp at h
  | _, _ :: _, [], _, h, _, _ => by simp at h
section
variable {x : S} {lo hi : Int}
theorem Ok.kl (h : Ok x lo hi) : x.kept.length ≤ 4000 := by have := h.klen; have := h.la; have := h.shi; have := h.hl; omega
theorem Ok.put (h : Ok x lo hi) (v : ByteArray) : Ok (put x v) lo hi := by
  unfold Sf.put
  by_cases hc : x.wait.length < x.most
  · rw [if_pos hc]
    exact { h with wlen := by show (x.wait ++ [v]).length ≤ x.most; simp; omega }
  · rw [if_neg hc]
    exact h
theorem Ok.opn (h : Ok x lo hi) (ms : Int) : Ok (opn x ms) lo hi := by
  unfold Sf.opn
  by_cases hc : (ms - x.a) % 16777216 ≤ 8388608 ∧ x.ms ≤ at_ x ms
  · rw [if_pos hc]
    exact { h with sms := by have := h.sms; show x.s ≤ at_ x ms; omega, msa := by show at_ x ms - x.a ≤ _; unfold at_; omega }
  · rw [if_neg hc]
    exact h
theorem Ok.prog_opn (h : Ok x lo hi) (ms : Int) : Sd.opn (prog x) (ms % 16777216) = prog (Sf.opn x ms) := by
  have h1 := h.sms
  have h2 := h.msa
  have h3 := h.klen
  have e1 : (ms % 16777216 - (prog x).a) % 16777216 = (ms - x.a) % 16777216 := by show (ms % 16777216 - x.a % 16777216) % 16777216 = _; omega
  have e2 : ((prog x).ms - (prog x).a) % 16777216 = x.ms - x.a := by show (x.ms % 16777216 - x.a % 16777216) % 16777216 = _; omega
  unfold Sd.opn Sf.opn
  rw [e1, e2]
  by_cases hc : (ms - x.a) % 16777216 ≤ 8388608 ∧ x.ms ≤ at_ x ms
  · rw [if_pos hc, if_pos (by unfold at_ at hc; omega)]
    unfold prog at_
    simp only [Sd.S.mk.injEq, and_true, true_and]
    omega
  · rw [if_neg hc, if_neg (by unfold at_ at hc; omega)]
theorem Ok.poll (h : Ok x lo hi) (hh : hi + 1 - lo ≤ 4000) : Ok (poll x) lo (hi + 1) :=
  { h.mono (show hi ≤ hi + 1 by omega) hh with
    pas := by have := h.pas; show x.pa ≤ x.ps + 1; omega
    phi := by have := h.phi; show x.ps + 1 ≤ hi + 1; omega
    lasts := fun v hv => by have := h.lasts v hv; show lo ≤ v ∧ v ≤ x.ps + 1; omega
    units := by have := h.units; show (0 : Int) ≤ 0 ∧ (0 : Int) ≤ hi + 1 - lo; omega }
theorem prog_poll (x : S) : ({ prog x with ps := ((prog x).ps + 1) % 16777216, units := 0 } : Sd.S) = prog (poll x) := by
  unfold prog poll
  simp only [Sd.S.mk.injEq, and_true, true_and]
  omega
theorem Ok.fresh1 (h : Ok x lo hi) (hh : hi + 1 - lo ≤ 4000) {v : ByteArray} {r : List ByteArray} (hw : x.wait = v :: r) (hl : x.s < x.ms) : Ok (fresh1 x v r) lo (hi + 1) :=
  { h.mono (show hi ≤ hi + 1 by omega) hh with
    shi := by have := h.shi; show x.s + 1 ≤ hi + 1; omega
    klen := by have := h.klen; show x.a + ((x.kept ++ [v]).length : Int) = x.s + 1; simp; omega
    llen := by have := h.llen; show (x.last ++ [x.ps]).length = (x.kept ++ [v]).length; simp; exact this
    sms := by show x.s + 1 ≤ x.ms; omega
    lasts := fun q hq => by
      rcases List.mem_append.1 hq with hq | hq
      · exact h.lasts q hq
      · rw [List.mem_singleton.1 hq]
        have := h.lpa
        have := h.pas
        show lo ≤ x.ps ∧ x.ps ≤ x.ps
        omega
    ags := fun n hn => by have := h.ags n hn; show x.a ≤ n ∧ n < x.s + 1; omega
    units := by have := h.units; show 0 ≤ x.units + 1 ∧ x.units + 1 ≤ hi + 1 - lo; omega
    wlen := by have := h.wlen; rw [hw] at this; show r.length ≤ x.most; simp at this; omega }
theorem Ok.repeat1 (h : Ok x lo hi) (hh : hi + 1 - lo ≤ 4000) {n : Int} {r : List Int} (ha : x.again = n :: r) : Ok (repeat1 x n r) lo (hi + 1) := by
  have hs := h.sorted
  have hg := h.ags
  rw [ha] at hs hg
  exact { h.mono (show hi ≤ hi + 1 by omega) hh with
    llen := by have := h.llen; show (x.last.set _ _).length = x.kept.length; simp; exact this
    lasts := fun q hq => by
      rcases List.mem_or_eq_of_mem_set hq with hq | rfl
      · exact h.lasts q hq
      · have := h.lpa
        have := h.pas
        show lo ≤ x.ps ∧ x.ps ≤ x.ps
        omega
    sorted := (List.pairwise_cons.1 hs).2
    ags := fun m hm => hg m (by simp [show m ∈ r from hm])
    units := by have := h.units; show 0 ≤ x.units + 1 ∧ x.units + 1 ≤ hi + 1 - lo; omega }
end
end Sf
end Go.Proofs.YtipaobpmojahaaaGreat

namespace Go.Proofs.YtipaobpmojahaaaGreat

namespace Gp
end Gp

namespace Sf
section
variable {x : S} {lo hi : Int}

/-! acknowledge -/
/-! what goes again -/
end
end Sf
end Go.Proofs.YtipaobpmojahaaaGreat

namespace Go.Proofs.YtipaobpmojahaaaGreat

namespace Sf
section
variable {x : S} {lo hi : Int}
theorem Ok.next (h : Ok x lo hi) (hh : hi + 1 - lo ≤ 4000) : Ok (next x).1 lo (hi + 1) := by
  unfold Sf.next
  match ha : x.again with
  | n :: r => exact h.repeat1 hh ha
  | [] =>
    match hw : x.wait with
    | [] => exact h.mono (by omega) hh
    | v :: r =>
      by_cases hc : x.ms ≤ x.s
      · simp only [if_pos hc]
        exact h.mono (by omega) hh
      · simp only [if_neg hc]
        exact h.fresh1 hh hw (by omega)
/-- What is left is what is kept and what waits. -/
theorem Ok.left (h : Ok x lo hi) (j : Nat) (hj : j < x.kept.length) : mget (prog x).m ((x.a % 16777216 + (j : Int)) % 16777216) = some (x.kept.getD j default, x.last.getD j 0 % 16777216) := by
  have hk := h.klen
  have := pm_get x.a x.kept x.last j h.llen (by have := h.kl; omega) hj
  rw [show (x.a % 16777216 + (j : Int)) % 16777216 = (x.a + (j : Int)) % 16777216 by omega]
  exact this
end
end Sf
open Go.RowKit

/-- Where its slices lie: what waits, what is kept, the polls' numbers, what goes again. -/
structure SfP where
  W : Option Addr
  cw : Nat
  K : Option Addr
  ck : Nat
  L : Option Addr
  cl : Nat
  G : Option Addr
  cg : Nat
def SfP.none : SfP := ⟨.none, 0, .none, 0, .none, 0, .none, 0⟩
def sfV (x : Sf.S) (P : SfP) : Value :=
  .agg #[.int .i64 x.s, .int .i64 x.a, .int .i64 x.ms, .int .i64 x.ps, .int .i64 x.pa, .int .i64 x.units, .int .i64 x.polls, .int .i64 (x.most : Int), .slice P.W x.wait.length P.cw, .slice P.K x.kept.length P.ck, .slice P.L x.last.length P.cl, .slice P.G x.again.length P.cg]
set_option maxHeartbeats 4000000 in
theorem sfnew_any (start queue polls : Int) (w : World) :
    Calls Tryz.prog 197 #[.int .i64 start, .int .i64 queue, .int .i64 polls] w fun e w' => e = .returned (sfV (Sf.new start queue polls) SfP.none) ∧ Fresh w w' := by
  have hv : sfV (Sf.new start queue polls) SfP.none = .agg #[.int .i64 (start % 16777216), .int .i64 (start % 16777216), .int .i64 (start % 16777216), .int .i64 (start % 16777216), .int .i64 (start % 16777216), .int .i64 0, .int .i64 (max 1 (min polls 256)), .int .i64 (max 1 (min queue 256)), .slice none 0 0, .slice none 0 0, .slice none 0 0, .slice none 0 0] := by
    unfold sfV Sf.new SfP.none
    simp only
    rw [show (((max 1 (min queue 256)).toNat : Nat) : Int) = max 1 (min queue 256) by omega]
    rfl
  rw [hv]
  clear hv
  obtain ⟨m, hm⟩ : ∃ m : Int, max 1 (min polls 256) = m := ⟨_, rfl⟩
  obtain ⟨q, hq⟩ : ∃ m : Int, max 1 (min queue 256) = m := ⟨_, rfl⟩
  rw [hm, hq]
  have hm1 : (if 256 < polls then 256 else polls) = min polls 256 := by split <;> omega
  have hq1 : (if 256 < queue then 256 else queue) = min queue 256 := by split <;> omega
  go_enter Tryz.func197, Tryz.ntmps197
  go_wp2_with fail
  refine (r01of_any start _).mono ?_
  rintro e w1 ⟨rfl, rfl⟩
  simp only
  go_wp2
  exact bodyPost_ret (v := _) (by simp [results, Tryz.results197, go_sem]) rfl ⟨rfl, (Touch.refl _ _).alloc _⟩

/-- A poll goes out. -/
theorem spoll_any (p : Nat) (F : Nat → Prop) (st : Sd.S) (w : World) (h : SendAt w p F st) :
    Calls Tryz.prog 40 #[.pointer (some ⟨p, 0, none⟩)] w fun e w' => e = .returned (.tuple #[.int .u32 ((st.ps + 1) % 16777216), .int .u32 st.s]) ∧ SendAt w' p F { st with ps := (st.ps + 1) % 16777216, units := 0 } ∧ Touch F w w' := by
  obtain ⟨g, b, k, A, c, h1, hF⟩ := h.open_
  have c3 : w.cell? ⟨p, 3, none⟩ = some (.int .u32 st.ps) := h1.blk.cell 3
  have f3 := h1.blk.frozen 3
  have i2 : SendIn (w.setCell ⟨p, 3, none⟩ (.int .u32 ((st.ps + 1) % 16777216))) p g b k A c { st with ps := (st.ps + 1) % 16777216 } := h1.scalar 3 _ rfl rfl rfl rfl rfl
  have f5 := i2.blk.frozen 5
  have c5 : (w.setCell ⟨p, 3, none⟩ (.int .u32 ((st.ps + 1) % 16777216))).cell? ⟨p, 5, none⟩ = some (.int .i64 st.units) := i2.blk.cell 5
  have i3 : SendIn ((w.setCell ⟨p, 3, none⟩ (.int .u32 ((st.ps + 1) % 16777216))).setCell ⟨p, 5, none⟩ (.int .i64 0)) p g b k A c { st with ps := (st.ps + 1) % 16777216, units := 0 } := i2.scalar 5 _ rfl rfl rfl rfl rfl
  have T3 : Hid (Touch F w ((w.setCell ⟨p, 3, none⟩ (.int .u32 ((st.ps + 1) % 16777216))).setCell ⟨p, 5, none⟩ (.int .i64 0))) := ((Touch.refl F w).st hF.p).st hF.p
  have I3 := Lib.hid i3
  have HF := Lib.hid hF
  have d0 : ((w.setCell ⟨p, 3, none⟩ (.int .u32 ((st.ps + 1) % 16777216))).setCell ⟨p, 5, none⟩ (.int .i64 0)).cell? ⟨p, 0, none⟩ = some (.int .u32 st.s) := i3.blk.cell 0
  have d3 : ((w.setCell ⟨p, 3, none⟩ (.int .u32 ((st.ps + 1) % 16777216))).setCell ⟨p, 5, none⟩ (.int .i64 0)).cell? ⟨p, 3, none⟩ = some (.int .u32 ((st.ps + 1) % 16777216)) := i3.blk.cell 3
  clear h h1 hF i2 i3
  go_enter Tryz.func40, Tryz.ntmps40
  go_wp2_with fail
  refine (sadd_any st.ps 1 w).mono ?_
  rintro e w1 ⟨rfl, rfl⟩
  simp only
  go_upto_region 2 with (fail)
  generalize (World.setCell (w1.setCell ⟨p, 3, none⟩ (.int .u32 ((st.ps + 1) % 16777216))) ⟨p, 5, none⟩ (.int .i64 0)) = w2 at *
  go_quiet (fail)
  go_wp2
  go_ret2
  exact ⟨rfl, SendAt.mk' (I3.out.drewN _) HF.out, T3.out.drewN _⟩

end Go.Proofs.YtipaobpmojahaaaGreat

namespace Go.Proofs.YtipaobpmojahaaaGreat
open Go.RowKit

theorem ringStr_allm (g : Nat) (b : Option Nat) (most : Nat) (q : List ByteArray) (w : World) (h : RingStr w g b most q) :
    Calls Tryz.prog 183 #[.pointer (some ⟨g, 0, none⟩)] w fun e w' => ∃ A' c', e = .returned (.slice A' q.length c') ∧ Mine strE w w' A' c' q := by
  obtain ⟨A, c, a, buf, hb, hs, rfl, hm1, hm2, hg⟩ := h
  exact (ringStr_all g A c a most buf q w hb hs ⟨hm1, hm2⟩ hg).mono fun e w' ⟨A', c', h1, h2, h3, h4, _⟩ => ⟨A', c', h1, h2, h3, h4⟩

set_option maxHeartbeats 4000000 in
set_option maxRecDepth 4000 in
theorem sleft_any (p : Nat) (F : Nat → Prop) (x : Sf.S) (lo hi : Int) (hok : Sf.Ok x lo hi) (w : World) (h : SendAt w p F (Sf.prog x)) :
    Calls Tryz.prog 103 #[.pointer (some ⟨p, 0, none⟩)] w fun e w' => ∃ B d, e = .returned (.slice B (x.kept ++ x.wait).length d) ∧ Mine strE w w' B d (x.kept ++ x.wait) := by
  obtain ⟨g, b, k, A, c, h1, hF⟩ := h.open_
  have HI := Lib.hid h1
  have KEEP : Hid (∀ W, Fresh w W → W.cell? ⟨p, 0, none⟩ = some (.int .u32 (x.s % 16777216)) ∧ W.cell? ⟨p, 1, none⟩ = some (.int .u32 (x.a % 16777216)) ∧ W.cell? ⟨p, 7, none⟩ = some (.pointer (some ⟨g, 0, none⟩)) ∧ W.cell? ⟨p, 8, none⟩ = some (.map (some k)) ∧ MapAt numK W k (Sd.mapV (Sf.prog x).m) ∧ RingStr W g b x.most x.wait) := fun W hf =>
    ⟨(hf.blk h1.blk (fun h => h)).cell 0, (hf.blk h1.blk (fun h => h)).cell 1, (hf.blk h1.blk (fun h => h)).cell 7, (hf.blk h1.blk (fun h => h)).cell 8, h1.map.touch hf (fun h => h), h1.ring.touch hf (fun h => h) (fun _ _ h => h)⟩
  have hk := hok.klen
  have hl := hok.kl
  have hwl := hok.wlen
  have hmo := hok.most
  have HG : Hid (∀ j, j < x.kept.length → mget (Sd.mapV (Sf.prog x).m) ((x.a + (j : Int)) % 16777216) = some (Sd.itemV (x.kept.getD j default, x.last.getD j 0 % 16777216))) := fun j hj => by
    rw [Sd.mapV_get]
    have := hok.left j hj
    rw [show (x.a % 16777216 + (j : Int)) % 16777216 = (x.a + (j : Int)) % 16777216 by omega] at this
    rw [this]
    rfl
  have hz : ∀ W, (zeroValue 189).run Tryz.prog W = .ok (.agg #[.string ByteArray.empty, .int .u32 0]) W := fun W => by kernel_rfl
  obtain ⟨c0, c1, c7, c8, _, _⟩ := KEEP.out w (Touch.refl _ _)
  clear h h1 hF hok HI
  go_enter Tryz.func103, Tryz.ntmps103
  go_wp2_with fail
  go_loopw [3, 4] (fun s3 s4 wr => ∃ (j : Nat) (C : Option Addr) (d : Nat) (M : List ByteArray), j ≤ x.kept.length ∧ s3 = .slice C M.length d ∧ s4 = .int .u32 ((x.a + (j : Int)) % 16777216) ∧ Hid (M = x.kept.take j) ∧ Hid (Mine strE w wr C d M)) (fun _ s4 _ => ((x.s - intOf s4) % 16777216).toNat)
  case atStart => exact ⟨0, none, 0, [], by omega, rfl, by simp, by unfold Hid; simp, Mine.nil _ _⟩
  case round =>
    obtain ⟨j, C, d, M, hj, rfl, rfl, HMe, HM⟩ := hrel
    clear c0 c1 c7 c8
    obtain ⟨c0, c1, c7, c8, hmap, hring⟩ := KEEP.out wr HM.out.fresh
    have HMap := Lib.hid hmap
    have HRing := Lib.hid hring
    clear hmap hring
    have hML : Hid (M.length = j) := by unfold Hid; rw [HMe.out]; simp; omega
    by_cases hlt : j < x.kept.length
    · have hne : ((x.a + (j : Int)) % 16777216 == x.s % 16777216) = false := by simp; omega
      have HMs : Hid (x.kept.take (j + 1) = M ++ [x.kept.getD j default]) := by
        unfold Hid
        rw [List.take_succ_eq_append_getElem hlt, HMe.out]
        simp [List.getD, List.getElem?_eq_getElem hlt]
      have HGj := Lib.hid (HG.out j hlt)
      have hnx : ((x.a + (j : Int)) % 16777216 + 1) % 16777216 = (x.a + ((j + 1 : Nat) : Int)) % 16777216 := by omega
      have hms : ((x.s - (x.a + ((j + 1 : Nat) : Int)) % 16777216) % 16777216).toNat < ((x.s - (x.a + (j : Int)) % 16777216) % 16777216).toNat := by omega
      have HSA := Lib.hid (sadd_any ((x.a + (j : Int)) % 16777216) 1)
      rw [hnx] at HSA
      generalize hv : x.kept.getD j default = v at *
      generalize hq : x.last.getD j 0 % 16777216 = q at *
      generalize hn0 : (x.a + (j : Int)) % 16777216 = n0 at *
      have hfd : (Instr.field 189 (Value.agg #[Value.string v, Value.int .u32 q]) 0).run Tryz.prog wr = .ok (.string v) wr := by kernel_rfl
      have hMb : M.length + 1 ≤ 8796093022208 := by have := hML.out; omega
      clear hML HMe HG hv hq hn0 hnx HRing
      go_wp2_with (first
        | (refine wpList_lookM rfl rfl (K := numK) (k := n0) rfl rfl HMap.out Tryz.underlying183 (hz _) ?_; rw [if_neg (by decide), HGj.out]; simp only [Option.getD_some, Sd.itemV])
        | (at_builtin; refine app_str rfl rfl (l := M) (l2 := [v]) rfl rfl (by exact HM.out.sl.alloc _) (Sl.rd (Sl.lit strE _ _ rfl _ _ rfl _ rfl (by decide))) (by simp; omega) ?_; intro A2 c2 L2 w2 hL2 hs2 ht2 hA2)
        | (go_at_call 16; refine (HSA.out _).mono ?_; rintro e' w' ⟨rfl, rfl⟩))
      have HM2 := Lib.hid ((HM.out.alloc (.cells #[.string v] 9)).app hs2 ht2 hA2)
      have HMe2 : Hid (L2 = x.kept.take (j + 1)) := by unfold Hid; rw [hL2.out, HMs.out]
      go_roundw
      case rel => exact ⟨j + 1, A2, c2, L2, hlt, rfl, rfl, HMe2, HM2⟩
      case measure => simp only [intOf]; exact hms
    · obtain rfl : j = x.kept.length := by omega
      have hne : ((x.a + (x.kept.length : Int)) % 16777216 == x.s % 16777216) = true := by rw [hk]; simp
      have HA := Lib.hid (ringStr_allm g b x.most x.wait wr HRing.out)
      have HME : Hid (M = x.kept) := by unfold Hid; rw [HMe.out, List.take_length]
      have hMb : M.length + x.wait.length ≤ 8796093022208 := by have := hML.out; omega
      clear hML HMe HG HRing HMap
      go_wp2_with fail
      refine HA.out.mono ?_
      rintro e w3 ⟨B, d3, rfl, m3⟩
      have HM3 := Lib.hid (HM.out.old m3.fresh)
      have HW := Lib.hid m3.sl.rd
      clear m3
      simp only
      go_wp2_with (at_builtin; refine app_str rfl rfl (l := M) (l2 := x.wait) rfl rfl HM3.out.sl HW.out hMb ?_; intro A2 c2 L2 w2 hL2 hs2 ht2 hA2)
      have HM4 := Lib.hid (HM3.out.app hs2 ht2 hA2)
      have HL2 : Hid (L2 = x.kept ++ x.wait) := by unfold Hid; rw [hL2.out, HME.out]
      go_ret
      exact ⟨A2, c2, by rw [← HL2.out]; rfl, HL2.out ▸ HM4.out⟩
end Go.Proofs.YtipaobpmojahaaaGreat

namespace Go.Proofs.YtipaobpmojahaaaGreat
open Go.RowKit

end Go.Proofs.YtipaobpmojahaaaGreat

namespace Go.Proofs.YtipaobpmojahaaaGreat
open Go.RowKit

end Go.Proofs.YtipaobpmojahaaaGreat

namespace Go.Proofs.YtipaobpmojahaaaGreat
open Go.RowKit

end Go.Proofs.YtipaobpmojahaaaGreat

namespace Go.Proofs.YtipaobpmojahaaaGreat
open Go.RowKit

end Go.Proofs.YtipaobpmojahaaaGreat

namespace Go.Proofs.YtipaobpmojahaaaGreat
open Go.RowKit

end Go.Proofs.YtipaobpmojahaaaGreat

/-
  Maps whose keys are seq.Num · rules: what is done with a unit, and which requests may be · recv.Recv: what a receiver is in memory.
-/
import Derived.Test.YtipaobpmojahaaaGreatRows
import Derived.Test.YtipaobpmojahaaaGreatCnP
import Derived.Test.YtipaobpmojahaaaGreatEvD
import Derived.Maps.RangeWalk
namespace Go.Proofs.YtipaobpmojahaaaGreat
open Go.RowKit

def numK : KT Tryz.prog Int := KT.int 55 .u32 Tryz.underlying55
theorem len_map {P : Program} {w : World} {t ty kt e : TypeId} (hu : P.underlying t = some (.map kt e)) {κ : Type} [DecidableEq κ] {K : KT P κ} {b : Nat} {m : MList κ} (h : MapAt K w b m) :
    (Builtin.len_ #[t] ty #[.map (some b)]).run P w = .ok (.int .i64 (m.length : Int)) w := by
  obtain ⟨es, cl, hb, hn⟩ := mlen h
  rw [← hn]
  exact run_len_map w t ty b es cl (by simp [Program.mapKeyOf, Program.mapElemOf, hu]) hb

theorem placeI : ∃ i, Tryz.prog.info? 3 = some i ∧ i.size = 1 := by
  obtain ⟨i, h1, _, h2, _⟩ := info_parts Tryz.infoInt
  exact ⟨i, h1, h2⟩
def placeK : KT Tryz.prog (Int × Int) := KT.pair 159 3 .i64 Tryz.underlying159 Tryz.underlying3 placeI

namespace Ru
abbrev Tbl := List ((Int × Int) × Int)
def row (m : Tbl) (s x : Int) (ks : List Int) : Tbl := ks.foldl (fun m k => mset m (s, k) x) m
def lift (m : Tbl) : MList (Int × Int) := m.map fun p => (p.1, Value.int .i64 p.2)
def tblS (m : Tbl) (s : Int) : Tbl :=
  let m := row m s 1 [1, 13, 14]
  let m := if s = 2 then m else row m s 1 [3]
  let m := if 5 ≤ s then row (row m s 1 [5]) s 4 [4, 7] else m
  if 7 ≤ s then row m s 1 [9] else m
def tblTo : Nat → Tbl
  | 0 => []
  | k + 1 => tblS (tblTo k) ((k : Int) + 1)
def tbl : Tbl :=
  row (row (row (row (row (row (row (row (tblTo 10) 1 3 [2, 5, 6, 8, 9, 10, 11, 12, 15]) 1 2 [7]) 2 1 [2, 7]) 3 2 [2, 4, 5, 6, 7, 8, 9, 10, 11, 12, 15]) 4 1 [4, 7]) 5 1 [6]) 7 1 [15]) 10 1 [8, 10, 11, 12]
def reqS (m : Tbl) (s : Int) : Tbl :=
  let m := row m s 1 [8, 9, 10, 11]
  if s = 1 ∨ s = 4 then m else row m s 1 [3]
def reqTo : Nat → Tbl
  | 0 => []
  | k + 1 => reqS (reqTo k) ((k : Int) + 1)
def req : Tbl :=
  row (row (row (row (row (row (row (reqTo 10) 1 1 [1]) 4 1 [1]) 3 1 [2]) 6 1 [5]) 8 1 [4, 6]) 9 1 [6]) 10 1 [4, 7]
def of_ (s k : Int) : Int := (mget tbl (s, k)).getD 0
def may (s k : Int) : Bool := (mget req (s, k)).getD 0 == 1
theorem lift_get (m : Tbl) (p : Int × Int) : (mget (lift m) p).getD (.int .i64 0) = .int .i64 ((mget m p).getD 0) := by
  unfold lift
  rw [mget_lift]
  cases mget m p <;> rfl
end Ru

theorem Rd.map_ne {α κ : Type} [DecidableEq κ] {P : Program} {K : KT P κ} {E : El α} {w : World} {A : Option Addr} {c b : Nat} {l : List α} {m : MList κ} (h : Rd E w A c l) (hm : MapAt K w b m) (hl : 0 < l.length) : ∀ ad, A = some ad → ad.block ≠ b := by
  intro ad ha e
  have h0 := h.2.2.2 ad ha 0 _ (List.getElem?_eq_getElem (show 0 < (E.all l).length by rw [E.all_len]; exact Nat.mul_pos hl E.pos))
  obtain ⟨_, es, cl, hb, _⟩ := hm
  subst e
  have hb2 : w.heap[(ad.add 0).block]? = some (.map es cl) := by rw [block_of_add]; exact hb
  simp [World.cell?, hb2] at h0

set_option maxHeartbeats 1000000 in
theorem row_any (b c : Nat) (A : Option Addr) (m : Ru.Tbl) (s x : Int) (ks : List Int) (w : World) (hm : MapAt placeK w b (Ru.lift m)) (hr : Rd intE w A c ks) :
    Calls Tryz.prog 157 #[.map (some b), .int .i64 s, .int .i64 x, .slice A ks.length c] w fun e w' => e = .returned (.tuple #[]) ∧ MapAt placeK w' b (Ru.lift (Ru.row m s x ks)) ∧ Touch (· = b) w w' := by
  have hlc := hr.1
  have hcm := hr.2.1
  unfold maxLen at hcm
  have HR := Lib.hid hr
  have HM := Lib.hid hm
  clear hr hm
  go_enter Tryz.func157, Tryz.ntmps157
  go_wp2_with fail
  go_loopw [12] (fun i wr => ∃ k : Nat, k ≤ ks.length ∧ i = .int .i64 k ∧ MapAt placeK wr b (Ru.lift (Ru.row m s x (ks.take k))) ∧ Touch (· = b) w wr) (fun i _ => ks.length - (intOf i).toNat)
  case atStart => exact ⟨0, by omega, rfl, HM.out, Touch.refl _ _⟩
  case round =>
    obtain ⟨k, hk, rfl, hmr, ht⟩ := hrel
    by_cases hlt : k < ks.length
    · obtain ⟨g, o, rfl, hg, hc⟩ := (HR.out.touch ht (fun ad ha hl => HR.out.map_ne HM.out (by omega) ad ha)).int_at k hlt
      have hstep : Ru.row m s x (ks.take (k + 1)) = mset (Ru.row m s x (ks.take k)) (s, ks.getD k 0) x := by
        unfold Ru.row
        rw [List.take_succ_eq_append_getElem hlt, List.foldl_append]
        simp [List.getD, List.getElem?_eq_getElem hlt]
      have HS := Lib.hid hstep
      have HMR := Lib.hid hmr
      have HT := Lib.hid ht
      clear hstep hmr ht
      generalize ks.getD k 0 = y at *
      go_wp2_with (refine wpList_storeM rfl rfl (k := (s, y)) rfl rfl HMR.out Tryz.underlying156 ?_; intro w' hm' ht')
      go_roundw
      case rel =>
        refine ⟨k + 1, by omega, by go_num, ?_, HT.out.trans ht' (fun _ _ h => h)⟩
        rw [HS.out]
        unfold Ru.lift
        rw [← mset_lift]
        exact hm'
      case measure => simp [intOf]; omega
    · have hkk : k = ks.length := by omega
      subst hkk
      have HX : Hid (MapAt placeK wr b (Ru.lift (Ru.row m s x ks)) ∧ Touch (· = b) w wr) := by
        rw [List.take_length] at hmr
        exact ⟨hmr, ht⟩
      clear hmr ht
      go_wp2
      go_end0
      exact ⟨rfl, HX.out.1, HX.out.2⟩

/-- Gaps: from one on, ahead of another one. -/
def gapE : El (Int × Int) := { e := 181, size := 2, bytes := 8, zero := .agg #[.int .u32 0, .int .u32 0], zel := (0, 0), enc := fun x => [.int .u32 x.1, .int .u32 x.2], len := fun _ => rfl, one := by simp [Value.oneCell'], pos := by decide, zsize := rfl, zenc := rfl }
namespace Rv
/-- A receiver: its numbers, what came ahead of others, what wasn't taken, what is to be told. -/
structure S where
  r : Int
  h : Int
  mr : Int
  window : Int
  m : List (Int × ByteArray)
  inbox : List ByteArray
  gaps : List (Int × Int)

def bufV (m : List (Int × ByteArray)) : MList Int := m.map fun p => (p.1, .string p.2)
theorem bufV_len (m : List (Int × ByteArray)) : (bufV m).length = m.length := by unfold bufV; rw [List.length_map]
def new (start window : Int) : S :=
  { r := start % 16777216, h := start % 16777216, mr := (start + max 1 (min window 64)) % 16777216, window := max 1 (min window 64), m := [], inbox := [], gaps := [] }
def renew (st : S) : S :=
  { st with mr := if (st.r + (st.window - st.inbox.length) - st.r) % 16777216 ≤ (st.mr - st.r) % 16777216 then st.mr % 16777216 else (st.r + (st.window - st.inbox.length)) % 16777216 }
end Rv

/-- The cells of a receiver. -/
def recvCells (k : Nat) (A : Option Addr) (c : Nat) (G : Option Addr) (d : Nat) (st : Rv.S) : List Value :=
  [.int .u32 st.r, .int .u32 st.h, .int .u32 st.mr, .int .i64 st.window, .map (some k), .slice A st.inbox.length c, .slice G st.gaps.length d]

/-- Where the parts of a receiver lie. -/
structure RecvIn (w : World) (p k : Nat) (A : Option Addr) (c : Nat) (G : Option Addr) (d : Nat) (st : Rv.S) : Prop where
  blk : Blk w p 175 (recvCells k A c G d st)
  map : MapAt numK w k (Rv.bufV st.m)
  inb : Sl strE w A c st.inbox
  gap : Sl gapE w G d st.gaps

/-- The parts of a receiver that stay within F. -/
structure RecvF (p k : Nat) (A G : Option Addr) (F : Nat → Prop) : Prop where
  p : F p
  k : F k
  A : ∀ ad, A = some ad → F ad.block
  G : ∀ ad, G = some ad → F ad.block

/-- A receiver lies in block p, its parts within F; F is of what is there. -/
def RecvAt (w : World) (p : Nat) (F : Nat → Prop) (st : Rv.S) : Prop := ∃ k A c G d, RecvIn w p k A c G d st ∧ RecvF p k A G F ∧ ∀ x, F x → x < w.heap.size

section
variable {w w' : World} {p k : Nat} {A G : Option Addr} {c d : Nat} {st st' : Rv.S} {F F' : Nat → Prop}
theorem RecvIn.touch {T : Nat → Prop} (h : RecvIn w p k A c G d st) (ht : Touch T w w') (hp : ¬ T p) (hk : ¬ T k) (hA : ∀ ad, A = some ad → ¬ T ad.block) (hG : ∀ ad, G = some ad → ¬ T ad.block) : RecvIn w' p k A c G d st :=
  ⟨ht.blk h.blk hp, h.map.touch ht hk, h.inb.touch ht hA, h.gap.touch ht hG⟩
theorem RecvIn.old (h : RecvIn w p k A c G d st) (ht : Fresh w w') : RecvIn w' p k A c G d st := h.touch ht (fun h => h) (fun h => h) (fun _ _ h => h) (fun _ _ h => h)
theorem RecvIn.drewN (h : RecvIn w p k A c G d st) (n : Nat) : RecvIn (w.drewN n) p k A c G d st := h.old ((Touch.refl _ w).drewN n)
theorem RecvAt.mk' (h : RecvIn w' p k A c G d st) (f : RecvF p k A G F) (hl : ∀ x, F x → x < w.heap.size) (hs : w.heap.size ≤ w'.heap.size) : RecvAt w' p F st :=
  ⟨k, A, c, G, d, h, f, fun x hx => Nat.lt_of_lt_of_le (hl x hx) hs⟩
theorem RecvAt.touch {T : Nat → Prop} (h : RecvAt w p F st) (ht : Touch T w w') (hT : ∀ x, F x → ¬ T x) : RecvAt w' p F st := by
  obtain ⟨k, A, c, G, d, h1, h2, h3⟩ := h
  exact RecvAt.mk' (h1.touch ht (hT _ h2.p) (hT _ h2.k) (fun ad e => hT _ (h2.A ad e)) (fun ad e => hT _ (h2.G ad e))) h2 h3 ht.size
theorem RecvAt.old (h : RecvAt w p F st) (ht : Fresh w w') : RecvAt w' p F st := h.touch ht (fun _ _ h => h)
theorem RecvAt.lim (h : RecvAt w p F st) : ∀ x, F x → x < w.heap.size := by
  obtain ⟨k, A, c, G, d, h1, h2, h3⟩ := h
  exact h3
end
end Go.Proofs.YtipaobpmojahaaaGreat

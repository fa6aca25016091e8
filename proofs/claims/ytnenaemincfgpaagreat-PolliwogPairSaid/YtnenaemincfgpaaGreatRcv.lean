/-
  recv.Recv: what a receiver is in memory.
-/
import Derived.Test.YtnenaemincfgpaaGreatEvD
import Derived.Test.YtnenaemincfgpaaGreatCnP
import Derived.Test.YtnenaemincfgpaaGreatRef13
namespace Go.Proofs.YtnenaemincfgpaaGreat
open Go.RowKit

def gapE : El (Int × Int) := { e := 127, size := 2, bytes := 8, zero := .agg #[.int .u32 0, .int .u32 0], zel := (0, 0), enc := fun x => [.int .u32 x.1, .int .u32 x.2], len := fun _ => rfl, one := by simp [Value.oneCell'], pos := by decide, zsize := rfl, zenc := rfl }
theorem Tryz.infoGap : (Tryz.prog.info? 127).map (fun i => (i.zero, i.size, i.bytes)) = some (some (.agg #[.int .u32 0, .int .u32 0]), 2, 8) := by kernel_rfl
theorem Sl.gap_at {w : World} {A : Option Addr} {c : Nat} {l : List (Int × Int)} (h : Sl gapE w A c l) (k : Nat) (hk : k < l.length) : ∃ g o, A = some ⟨g, o, none⟩ ∧ g < w.heap.size ∧ w.cell? ⟨g, o + k * 2, none⟩ = some (.int .u32 (l.getD k (0, 0)).1) ∧ w.cell? ⟨g, o + k * 2 + 1, none⟩ = some (.int .u32 (l.getD k (0, 0)).2) := by
 obtain ⟨g, o, hA, hg, hc⟩ := h.at_ k hk
 have e : l.getD k (0, 0) = l[k] := by simp [List.getD, List.getElem?_eq_getElem hk]
 rw [e]
 refine ⟨g, o, hA, hg, ?_, ?_⟩
 ·have := hc 0 (.int .u32 l[k].1) rfl
  simpa [gapE, Nat.add_assoc] using this
 ·have := hc 1 (.int .u32 l[k].2) rfl
  simpa [gapE, Nat.add_assoc] using this

namespace Rv
structure S where
 r : Int
 h : Int
 mr : Int
 window : Int
 m : List (Int × ByteArray)
 inbox : List ByteArray
 gaps : List (Int × Int)

def bufV (m : List (Int × ByteArray)) : MList Int := m.map fun p => (p.1, .string p.2)
theorem bufV_set (m : List (Int × ByteArray)) (k : Int) (v : ByteArray) : mset (bufV m) k (.string v) = bufV (mset m k v) := mset_lift Value.string m k v
theorem bufV_get (m : List (Int × ByteArray)) (k : Int) : mget (bufV m) k = (mget m k).map Value.string := mget_lift Value.string m k
theorem bufV_del (m : List (Int × ByteArray)) (k : Int) : mdel (bufV m) k = bufV (mdel m k) := mdel_lift Value.string m k
theorem bufV_len (m : List (Int × ByteArray)) : (bufV m).length = m.length := by unfold bufV; rw [List.length_map]
theorem bufV_keys (m : List (Int × ByteArray)) : (bufV m).map (·.1) = m.map (·.1) := by unfold bufV; rw [List.map_map]; rfl

def new (start window : Int) : S :=
 { r := start % 16777216, h := start % 16777216, mr := (start + max 1 (min window 64)) % 16777216, window := max 1 (min window 64), m := [], inbox := [], gaps := [] }
def dl : Nat -> Int -> List (Int × ByteArray) -> List ByteArray -> Int × List (Int × ByteArray) × List ByteArray
 |0, r, m, out => (r, m, out)
 |k + 1, r, m, out => match mget m r with
  |some v => dl k ((r + 1) % 16777216) (mdel m r) (out ++ [v])
  |none => (r, m, out)
def deliver (st : S) : S × List ByteArray :=
 let d := dl st.m.length st.r st.m []
 ({ st with r := d.1, m := d.2.1, inbox := st.inbox ++ d.2.2 }, d.2.2)
def takes (st : S) (n : Int) : Bool := decide (mget st.m n = none) && decide ((n - st.r) % 16777216 < (st.mr - st.r) % 16777216)
def lay (st : S) (n : Int) (v : ByteArray) : S :=
 if (n - st.r) % 16777216 < (st.h - st.r) % 16777216 then { st with m := mset st.m n v }
 else { st with m := mset st.m n v, gaps := if n ≠ st.h ∧ st.gaps.length < 8 then st.gaps ++ [(st.h, n)] else st.gaps, h := (n + 1) % 16777216 }
def data (st : S) (n : Int) (v : ByteArray) : S × List ByteArray :=
 if takes st (n % 16777216) then deliver (lay st (n % 16777216) v) else (st, [])
def renew (st : S) : S :=
 { st with mr := if (st.r + (st.window - st.inbox.length) - st.r) % 16777216 <= (st.mr - st.r) % 16777216 then st.mr % 16777216 else (st.r + (st.window - st.inbox.length)) % 16777216 }
end Rv

def recvCells (k : Nat) (A : Option Addr) (c : Nat) (G : Option Addr) (d : Nat) (st : Rv.S) : List Value :=
 [.int .u32 st.r, .int .u32 st.h, .int .u32 st.mr, .int .i64 st.window, .map (some k), .slice A st.inbox.length c, .slice G st.gaps.length d]

structure RecvIn (w : World) (p k : Nat) (A : Option Addr) (c : Nat) (G : Option Addr) (d : Nat) (st : Rv.S) : Prop where
 blk : Blk w p 121 (recvCells k A c G d st)
 map : MapAt numK w k (Rv.bufV st.m)
 inb : Sl strE w A c st.inbox
 gap : Sl gapE w G d st.gaps

structure RecvF (p k : Nat) (A G : Option Addr) (F : Nat -> Prop) : Prop where
 p : F p
 k : F k
 A : ∀ ad, A = some ad -> F ad.block
 G : ∀ ad, G = some ad -> F ad.block

def RecvAt (w : World) (p : Nat) (F : Nat -> Prop) (st : Rv.S) : Prop := ∃ k A c G d, RecvIn w p k A c G d st ∧ RecvF p k A G F ∧ ∀ x, F x -> x < w.heap.size

section
variable {w w' : World} {p k : Nat} {A G : Option Addr} {c d : Nat} {st st' : Rv.S} {F F' : Nat -> Prop}
theorem Sl.ne_map {α : Type} {E : El α} {l : List α} {m : MList Int} (h : Sl E w A c l) (hm : MapAt numK w k m) : ∀ ad, A = some ad -> ad.block ≠ k := fun ad ha e => by
 obtain ⟨_, cs, hb, _⟩ := h.2.2.2 ad ha
 exact hm.blk_ne hb e.symm
theorem RecvIn.ne_k (h : RecvIn w p k A c G d st) : k ≠ p := h.map.blk_ne h.blk
theorem RecvIn.ne_A (h : RecvIn w p k A c G d st) : ∀ ad, A = some ad -> ad.block ≠ p := h.inb.blk_ne h.blk (by decide)
theorem RecvIn.ne_G (h : RecvIn w p k A c G d st) : ∀ ad, G = some ad -> ad.block ≠ p := h.gap.blk_ne h.blk (by decide)
theorem RecvIn.A_ne_k (h : RecvIn w p k A c G d st) : ∀ ad, A = some ad -> ad.block ≠ k := h.inb.ne_map h.map
theorem RecvIn.G_ne_k (h : RecvIn w p k A c G d st) : ∀ ad, G = some ad -> ad.block ≠ k := h.gap.ne_map h.map
theorem RecvIn.A_ne_G (h : RecvIn w p k A c G d st) : ∀ ad, A = some ad -> ∀ ad', G = some ad' -> ad.block ≠ ad'.block := fun ad ha ad' hg => by
 obtain ⟨_, cs, hb, _⟩ := h.gap.2.2.2 ad' hg
 exact h.inb.blk_ne hb (by decide) ad ha
theorem RecvIn.touch {T : Nat -> Prop} (h : RecvIn w p k A c G d st) (ht : Touch T w w') (hp : ¬ T p) (hk : ¬ T k) (hA : ∀ ad, A = some ad -> ¬ T ad.block) (hG : ∀ ad, G = some ad -> ¬ T ad.block) : RecvIn w' p k A c G d st :=
 ⟨ht.blk h.blk hp, h.map.touch ht hk, h.inb.touch ht hA, h.gap.touch ht hG⟩
theorem RecvIn.old (h : RecvIn w p k A c G d st) (ht : Fresh w w') : RecvIn w' p k A c G d st := h.touch ht (fun h => h) (fun h => h) (fun _ _ h => h) (fun _ _ h => h)
theorem RecvIn.drewN (h : RecvIn w p k A c G d st) (n : Nat) : RecvIn (w.drewN n) p k A c G d st := h.old ((Touch.refl _ w).drewN n)
theorem RecvIn.scalar (h : RecvIn w p k A c G d st) (i : Nat) (u : Value) (hc : (recvCells k A c G d st).set i u = recvCells k A c G d st') (h1 : st'.m = st.m) (h2 : st'.inbox = st.inbox) (h3 : st'.gaps = st.gaps) :
  RecvIn (w.setCell ⟨p, i, none⟩ u) p k A c G d st' := by
 refine ⟨hc ▸ h.blk.set i u, ?_, ?_, ?_⟩
 ·rw [h1]; exact h.map.setCell (by exact h.ne_k) _
 ·rw [h2]; exact h.inb.setCell (p := ⟨p, i, none⟩) h.ne_A _
 ·rw [h3]; exact h.gap.setCell (p := ⟨p, i, none⟩) h.ne_G _
theorem RecvIn.mapped {m : List (Int × ByteArray)} (h : RecvIn w p k A c G d st) (hm : MapAt numK w' k (Rv.bufV m)) (ht : Touch (· = k) w w') : RecvIn w' p k A c G d { st with m := m } :=
 ⟨ht.blk h.blk (fun e => h.ne_k e.symm), hm, h.inb.touch ht (fun ad e => h.A_ne_k ad e), h.gap.touch ht (fun ad e => h.G_ne_k ad e)⟩
theorem RecvIn.inboxed {A' : Option Addr} {c' : Nat} {l : List ByteArray} (h : RecvIn w p k A c G d st) (hs : Sl strE w A' c' l) : RecvIn (w.setCell ⟨p, 5, none⟩ (.slice A' l.length c')) p k A' c' G d { st with inbox := l } :=
 ⟨h.blk.set 5 _, h.map.setCell (by exact h.ne_k) _, hs.setCell (p := ⟨p, 5, none⟩) (hs.blk_ne h.blk (by decide)) _, h.gap.setCell (p := ⟨p, 5, none⟩) h.ne_G _⟩
theorem RecvIn.gapped {G' : Option Addr} {d' : Nat} {l : List (Int × Int)} (h : RecvIn w p k A c G d st) (hs : Sl gapE w G' d' l) : RecvIn (w.setCell ⟨p, 6, none⟩ (.slice G' l.length d')) p k A c G' d' { st with gaps := l } :=
 ⟨h.blk.set 6 _, h.map.setCell (by exact h.ne_k) _, h.inb.setCell (p := ⟨p, 6, none⟩) h.ne_A _, hs.setCell (p := ⟨p, 6, none⟩) (hs.blk_ne h.blk (by decide)) _⟩
theorem RecvAt.mk' (h : RecvIn w' p k A c G d st) (f : RecvF p k A G F) (hl : ∀ x, F x -> x < w.heap.size) (hs : w.heap.size <= w'.heap.size) : RecvAt w' p F st :=
 ⟨k, A, c, G, d, h, f, fun x hx => Nat.lt_of_lt_of_le (hl x hx) hs⟩
theorem RecvAt.touch {T : Nat -> Prop} (h : RecvAt w p F st) (ht : Touch T w w') (hT : ∀ x, F x -> ¬ T x) : RecvAt w' p F st := by
 obtain ⟨k, A, c, G, d, h1, h2, h3⟩ := h
 exact RecvAt.mk' (h1.touch ht (hT _ h2.p) (hT _ h2.k) (fun ad e => hT _ (h2.A ad e)) (fun ad e => hT _ (h2.G ad e))) h2 h3 ht.size
theorem RecvAt.old (h : RecvAt w p F st) (ht : Fresh w w') : RecvAt w' p F st := h.touch ht (fun _ _ h => h)
theorem RecvAt.lim (h : RecvAt w p F st) : ∀ x, F x -> x < w.heap.size := by
 obtain ⟨k, A, c, G, d, h1, h2, h3⟩ := h
 exact h3
end
end Go.Proofs.YtnenaemincfgpaaGreat

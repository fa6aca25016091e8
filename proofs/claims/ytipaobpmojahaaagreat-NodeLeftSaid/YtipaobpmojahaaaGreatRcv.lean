/-
  slices.SortFunc at spans, of a nil slice: nothing is done · recv.Recv: what a receiver is in memory.
-/
import Derived.Test.YtipaobpmojahaaaGreatLay
import Derived.Test.YtipaobpmojahaaaGreatSpanE
import Derived.Test.YtipaobpmojahaaaGreatEvD
import Derived.Test.YtipaobpmojahaaaGreatRow2
import Derived.Test.YtipaobpmojahaaaGreatRef13b
namespace Go.Proofs.YtipaobpmojahaaaGreat
open Go.RowKit Go.Shelf Go.Lib

theorem ins_none (w : World) : Calls Tryz.prog 270 #[.slice none 0 0, .int .i64 0, .int .i64 0, .func (.func 245) #[] #[]] w fun e w' => e = .returned (.tuple #[]) ∧ w' = w := by
 go_enter Tryz.func270, Tryz.ntmps270
 go_wp2_with fail
 go_loopw [8] (fun i wr => i = .int .i64 1 ∧ wr = w) (fun _ _ => 0)
 case atStart => exact ⟨rfl, rfl⟩
 case round =>
  obtain ⟨rfl, rfl⟩ := hrel
  go_wp2
  go_end0
  exact ⟨rfl, rfl⟩

theorem pdq_none (w : World) : Calls Tryz.prog 264 #[.slice none 0 0, .int .i64 0, .int .i64 0, .int .i64 0, .func (.func 245) #[] #[]] w fun e w' => e = .returned (.tuple #[]) ∧ w' = w := by
 go_enter Tryz.func264, Tryz.ntmps264
 go_wp2_with fail
 go_loopw [1, 2, 3] (fun a b l wr => a = .int .i64 0 ∧ b = .int .i64 0 ∧ l = .int .i64 0 ∧ wr = w) (fun _ _ _ _ => 0)
 case atStart => exact ⟨rfl, rfl, rfl, rfl⟩
 case round =>
  obtain ⟨rfl, rfl, rfl, rfl⟩ := hrel
  go_wp2_with fail
  refine (ins_none _).mono ?_
  rintro e w2 ⟨rfl, rfl⟩
  go_wp2
  refine bodyPost_ret (results_none rfl _ _ _) rfl ?_
  exact ⟨rfl, rfl⟩

theorem sort_none (w : World) : Calls Tryz.prog 244 #[.slice none 0 0, .func (.func 245) #[] #[]] w fun e w' => e = .returned (.tuple #[]) ∧ w' = w := by
 have hlen : ∀ W, Calls Tryz.prog 265 #[.int .u64 0] W fun e w' => e = .returned (.int .i64 0) ∧ w' = W := fun W => (Any.bits_Len Tryz.bitsLen2 0 W (by omega) (by omega)).mono fun _ _ h => ⟨h.1.trans (by rw [show (Lib.bitLen (0 : Int).toNat) = 0 by decide]; rfl), h.2⟩
 go_enter Tryz.func244, Tryz.ntmps244
 go_wp2_with fail
 refine (hlen _).mono ?_
 rintro e w2 ⟨rfl, rfl⟩
 go_wp2_with fail
 refine (pdq_none _).mono ?_
 rintro e w2 ⟨rfl, rfl⟩
 go_wp2
 go_end0
 exact ⟨rfl, rfl⟩
open Go.RowKit

def gapE : El (Int × Int) := { e := 181, size := 2, bytes := 8, zero := .agg #[.int .u32 0, .int .u32 0], zel := (0, 0), enc := fun x => [.int .u32 x.1, .int .u32 x.2], len := fun _ => rfl, one := by simp [Value.oneCell'], pos := by decide, zsize := rfl, zenc := rfl }
namespace Rv
structure S where
 r : Int
 h : Int
 mr : Int
 window : Int
 m : List (Int × ByteArray)
 inbox : List ByteArray
 gaps : List (Int × Int)

def bufV (m : List (Int × ByteArray)) : MList Int := m.map fun p => (p.1, .string p.2)
theorem bufV_len (m : List (Int × ByteArray)) : (bufV m).length = m.length := by unfold bufV; rw [List.length_map]
def new (start window : Int) : S :=
 { r := start % 16777216, h := start % 16777216, mr := (start + max 1 (min window 64)) % 16777216, window := max 1 (min window 64), m := [], inbox := [], gaps := [] }
def renew (st : S) : S :=
 { st with mr := if (st.r + (st.window - st.inbox.length) - st.r) % 16777216 <= (st.mr - st.r) % 16777216 then st.mr % 16777216 else (st.r + (st.window - st.inbox.length)) % 16777216 }
end Rv

def recvCells (k : Nat) (A : Option Addr) (c : Nat) (G : Option Addr) (d : Nat) (st : Rv.S) : List Value :=
 [.int .u32 st.r, .int .u32 st.h, .int .u32 st.mr, .int .i64 st.window, .map (some k), .slice A st.inbox.length c, .slice G st.gaps.length d]

structure RecvIn (w : World) (p k : Nat) (A : Option Addr) (c : Nat) (G : Option Addr) (d : Nat) (st : Rv.S) : Prop where
 blk : Blk w p 175 (recvCells k A c G d st)
 map : MapAt numK w k (Rv.bufV st.m)
 inb : Sl strE w A c st.inbox
 gap : Sl gapE w G d st.gaps

structure RecvF (p k : Nat) (A G : Option Addr) (F : Nat -> Prop) : Prop where
 p : F p
 k : F k
 A : ∀ ad, A = some ad -> F ad.block
 G : ∀ ad, G = some ad -> F ad.block

def RecvAt (w : World) (p : Nat) (F : Nat -> Prop) (st : Rv.S) : Prop := ∃ k A c G d, RecvIn w p k A c G d st ∧ RecvF p k A G F ∧ ∀ x, F x -> x < w.heap.size

section
variable {w w' : World} {p k : Nat} {A G : Option Addr} {c d : Nat} {st st' : Rv.S} {F F' : Nat -> Prop}
theorem RecvIn.touch {T : Nat -> Prop} (h : RecvIn w p k A c G d st) (ht : Touch T w w') (hp : ¬ T p) (hk : ¬ T k) (hA : ∀ ad, A = some ad -> ¬ T ad.block) (hG : ∀ ad, G = some ad -> ¬ T ad.block) : RecvIn w' p k A c G d st :=
 ⟨ht.blk h.blk hp, h.map.touch ht hk, h.inb.touch ht hA, h.gap.touch ht hG⟩
theorem RecvIn.old (h : RecvIn w p k A c G d st) (ht : Fresh w w') : RecvIn w' p k A c G d st := h.touch ht (fun h => h) (fun h => h) (fun _ _ h => h) (fun _ _ h => h)
theorem RecvIn.drewN (h : RecvIn w p k A c G d st) (n : Nat) : RecvIn (w.drewN n) p k A c G d st := h.old ((Touch.refl _ w).drewN n)
theorem RecvAt.mk' (h : RecvIn w' p k A c G d st) (f : RecvF p k A G F) (hl : ∀ x, F x -> x < w.heap.size) (hs : w.heap.size <= w'.heap.size) : RecvAt w' p F st :=
 ⟨k, A, c, G, d, h, f, fun x hx => Nat.lt_of_lt_of_le (hl x hx) hs⟩
theorem RecvAt.touch {T : Nat -> Prop} (h : RecvAt w p F st) (ht : Touch T w w') (hT : ∀ x, F x -> ¬ T x) : RecvAt w' p F st := by
 obtain ⟨k, A, c, G, d, h1, h2, h3⟩ := h
 exact RecvAt.mk' (h1.touch ht (hT _ h2.p) (hT _ h2.k) (fun ad e => hT _ (h2.A ad e)) (fun ad e => hT _ (h2.G ad e))) h2 h3 ht.size
theorem RecvAt.old (h : RecvAt w p F st) (ht : Fresh w w') : RecvAt w' p F st := h.touch ht (fun _ _ h => h)
theorem RecvAt.lim (h : RecvAt w p F st) : ∀ x, F x -> x < w.heap.size := by
 obtain ⟨k, A, c, G, d, h1, h2, h3⟩ := h
 exact h3
end
end Go.Proofs.YtipaobpmojahaaaGreat

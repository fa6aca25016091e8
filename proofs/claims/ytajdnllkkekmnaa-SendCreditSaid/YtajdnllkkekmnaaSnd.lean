/-
  send.Send: what a sender is in memory.
-/
import Derived.Test.YtajdnllkkekmnaaRingWStr
import Derived.Test.YtajdnllkkekmnaaKey
import Derived.Test.YtajdnllkkekmnaaGapE
import Derived.Test.YtajdnllkkekmnaaSeq
import Derived.Test.YtajdnllkkekmnaaMine
namespace Go.Proofs.Ytajdnllkkekmnaa
open Go.RowKit

namespace Sd
/-- A sender: its numbers, what waits, what is kept by its numbers, what goes again. -/
structure S where
  s : Int
  a : Int
  ms : Int
  ps : Int
  pa : Int
  units : Int
  polls : Int
  most : Nat
  q : List ByteArray
  m : List (Int × (ByteArray × Int))
  again : List Int

def itemV (p : ByteArray × Int) : Value := .agg #[.string p.1, .int .u32 p.2]
def mapV (m : List (Int × (ByteArray × Int))) : MList Int := m.map fun p => (p.1, itemV p.2)
theorem mapV_set (m : List (Int × (ByteArray × Int))) (k : Int) (v : ByteArray × Int) : mset (mapV m) k (itemV v) = mapV (mset m k v) := mset_lift itemV m k v
theorem mapV_get (m : List (Int × (ByteArray × Int))) (k : Int) : mget (mapV m) k = (mget m k).map itemV := mget_lift itemV m k
theorem mapV_len (m : List (Int × (ByteArray × Int))) : (mapV m).length = m.length := by unfold mapV; rw [List.length_map]

def new (start queue polls : Int) : S :=
  { s := start % 16777216, a := start % 16777216, ms := start % 16777216, ps := start % 16777216, pa := start % 16777216, units := 0, polls := max 1 (min polls 256), most := (max 1 (min queue 256)).toNat, q := [], m := [], again := [] }
def opn (st : S) (x : Int) : S := if (x - st.a) % 16777216 ≤ 8388608 ∧ (st.ms - st.a) % 16777216 ≤ (x - st.a) % 16777216 then { st with ms := x % 16777216 } else st
def out (st : S) (n : Int) (v : ByteArray) : S := { st with m := mset st.m n (v, st.ps), units := st.units + 1 }
def new1 (st : S) (v : ByteArray) (r : List ByteArray) : S := { out { st with q := r } st.s v with s := (st.s + 1) % 16777216 }
def put (st : S) (v : ByteArray) : S := if st.q.length < st.most then { st with q := st.q ++ [v] } else st
end Sd


/-- The cells of a sender. -/
def sendCells (g k : Nat) (A : Option Addr) (c : Nat) (st : Sd.S) : List Value :=
  [.int .u32 st.s, .int .u32 st.a, .int .u32 st.ms, .int .u32 st.ps, .int .u32 st.pa, .int .i64 st.units, .int .i64 st.polls, .pointer (some ⟨g, 0, none⟩), .map (some k), .slice A st.again.length c]

/-- Where the parts of a sender lie. -/
structure SendIn (w : World) (p g : Nat) (b : Option Nat) (k : Nat) (A : Option Addr) (c : Nat) (st : Sd.S) : Prop where
  blk : Blk w p 53 (sendCells g k A c st)
  ring : RingStr w g b st.most st.q
  map : MapAt numK w k (Sd.mapV st.m)
  ag : Sl numE w A c st.again

/-- A sender lies in block p, its parts within F. -/
structure SendAt (w : World) (p : Nat) (F : Nat → Prop) (st : Sd.S) : Prop where
  at_ : ∃ g b k A c, SendIn w p g b k A c st ∧ F g ∧ (∀ x, b = some x → F x) ∧ F k ∧ ∀ ad, A = some ad → F ad.block
  own : F p

section
variable {w w' : World} {p g : Nat} {b : Option Nat} {k : Nat} {A : Option Addr} {c : Nat} {st st' : Sd.S} {F G : Nat → Prop}
theorem SendIn.ne_g (h : SendIn w p g b k A c st) : p ≠ g := by
  obtain ⟨A', c', a', buf, h1, _⟩ := h.ring
  exact h.blk.ne_ h1 (by decide)
theorem SendIn.ne_b (h : SendIn w p g b k A c st) : b ≠ some p := by
  obtain ⟨A', c', a', buf, h1, h2, rfl, _⟩ := h.ring
  intro e
  cases A' with
  | none => cases e
  | some ad => have := h2.blk_ne h.blk (by decide) ad rfl; simp at e; exact this e
theorem SendIn.ne_k (h : SendIn w p g b k A c st) : k ≠ p := h.map.blk_ne h.blk
theorem SendIn.ne_A (h : SendIn w p g b k A c st) : ∀ ad, A = some ad → ad.block ≠ p := h.ag.blk_ne h.blk (by decide)
theorem SendIn.k_ne_g (h : SendIn w p g b k A c st) : k ≠ g := by
  obtain ⟨A', c', a', buf, h1, _⟩ := h.ring
  exact h.map.blk_ne h1
theorem SendIn.k_ne_b (h : SendIn w p g b k A c st) : b ≠ some k := by
  obtain ⟨A', c', a', buf, h1, h2, rfl, _⟩ := h.ring
  intro e
  cases A' with
  | none => cases e
  | some ad =>
    simp at e
    obtain ⟨_, cs, hb, _⟩ := h2.2.2.2 ad rfl
    exact h.map.blk_ne hb e.symm
theorem SendIn.A_ne_g (h : SendIn w p g b k A c st) : ∀ ad, A = some ad → ad.block ≠ g := by
  obtain ⟨A', c', a', buf, h1, _⟩ := h.ring
  exact h.ag.blk_ne h1 (by decide)
theorem SendIn.A_ne_k (h : SendIn w p g b k A c st) : ∀ ad, A = some ad → ad.block ≠ k := fun ad ha e => by
  obtain ⟨_, cs, hb, _⟩ := h.ag.2.2.2 ad ha
  exact h.map.blk_ne hb e.symm
theorem SendIn.A_ne_b (h : SendIn w p g b k A c st) : ∀ ad, A = some ad → b ≠ some ad.block := fun ad ha e => by
  obtain ⟨A', c', a', buf, h1, h2, rfl, _⟩ := h.ring
  cases A' with
  | none => cases e
  | some ad' =>
    simp at e
    obtain ⟨_, cs, hb, _⟩ := h2.2.2.2 ad' rfl
    exact h.ag.blk_ne hb (by decide) ad ha e.symm
theorem SendIn.touch {T : Nat → Prop} (h : SendIn w p g b k A c st) (ht : Touch T w w') (hp : ¬ T p) (hg : ¬ T g) (hb : ∀ x, b = some x → ¬ T x) (hk : ¬ T k) (hA : ∀ ad, A = some ad → ¬ T ad.block) : SendIn w' p g b k A c st :=
  ⟨ht.blk h.blk hp, h.ring.touch ht hg hb, h.map.touch ht hk, h.ag.touch ht hA⟩
/-- A store into one of its numbers. -/
theorem SendIn.scalar (h : SendIn w p g b k A c st) (i : Nat) (u : Value) (hc : (sendCells g k A c st).set i u = sendCells g k A c st') (h1 : st'.most = st.most) (h2 : st'.q = st.q) (h3 : st'.m = st.m) (h4 : st'.again = st.again) :
    SendIn (w.setCell ⟨p, i, none⟩ u) p g b k A c st' := by
  refine ⟨hc ▸ h.blk.set i u, ?_, ?_, ?_⟩
  · rw [h1, h2]
    exact h.ring.touch (Touch.set1 w p i u) (fun e => h.ne_g e.symm) (fun z e e2 => h.ne_b (by rw [e, e2]))
  · rw [h3]
    exact h.map.setCell (by exact h.ne_k) _
  · rw [h4]
    exact h.ag.setCell (p := ⟨p, i, none⟩) h.ne_A _
theorem SendIn.drewN (h : SendIn w p g b k A c st) (n : Nat) : SendIn (w.drewN n) p g b k A c st :=
  h.touch ((Touch.refl (fun _ => False) w).drewN n) (fun h => h) (fun h => h) (fun _ _ h => h) (fun h => h) (fun _ _ h => h)
/-- The parts of a sender that stay within F. -/
structure SendF (p g : Nat) (b : Option Nat) (k : Nat) (A : Option Addr) (F : Nat → Prop) : Prop where
  p : F p
  g : F g
  b : ∀ x, b = some x → F x
  k : F k
  A : ∀ ad, A = some ad → F ad.block
theorem SendAt.mk' (h : SendIn w p g b k A c st) (f : SendF p g b k A F) : SendAt w p F st := ⟨⟨g, b, k, A, c, h, f.g, f.b, f.k, f.A⟩, f.p⟩
theorem SendAt.open_ (h : SendAt w p F st) : ∃ g b k A c, SendIn w p g b k A c st ∧ SendF p g b k A F := by
  obtain ⟨⟨g, b, k, A, c, h1, h2, h3, h4, h5⟩, h6⟩ := h
  exact ⟨g, b, k, A, c, h1, h6, h2, h3, h4, h5⟩
theorem SendAt.mono (h : SendAt w p F st) (hF : ∀ x, F x → G x) : SendAt w p G st := by
  obtain ⟨⟨g, b, k, A, c, h1, h2, h3, h4, h5⟩, h6⟩ := h
  exact ⟨⟨g, b, k, A, c, h1, hF _ h2, fun x e => hF _ (h3 x e), hF _ h4, fun ad e => hF _ (h5 ad e)⟩, hF _ h6⟩
theorem SendAt.touch {T : Nat → Prop} (h : SendAt w p F st) (ht : Touch T w w') (hT : ∀ x, F x → x < w.heap.size → ¬ T x) : SendAt w' p F st := by
  obtain ⟨⟨g, b, k, A, c, h1, h2, h3, h4, h5⟩, h6⟩ := h
  exact ⟨⟨g, b, k, A, c, h1.touch ht (hT _ h6 h1.blk.lt) (hT _ h2 h1.ring.lt) (fun x e => hT _ (h3 x e) (h1.ring.ltb x e)) (hT _ h4 h1.map.lt) (fun ad e => hT _ (h5 ad e) (h1.ag.lt ad e)), h2, h3, h4, h5⟩, h6⟩
theorem SendAt.old (h : SendAt w p F st) (ht : Fresh w w') : SendAt w' p F st := h.touch ht (fun _ _ _ h => h)
theorem SendAt.drewN (h : SendAt w p F st) (n : Nat) : SendAt (w.drewN n) p F st := h.old ((Touch.refl _ w).drewN n)
end
end Go.Proofs.Ytajdnllkkekmnaa

/-
  strings.Builder at this seat: WriteString and String, and what keeps a builder.
-/
import Derived.Test.YtpifgpmjnjbecaaDoorWhP
import Derived.Test.YtpifgpmjnjbecaaDoorMem
import Derived.Test.YtpifgpmjnjbecaaDoorLayW
namespace Go.Proofs.YtpifgpmjnjbecaaDoor
open Go.RowKit

/-- A builder at block b holds the bytes l; its memory lies from B on. -/
def Bd (B b : Nat) (l : List UInt8) (w : World) : Prop := Lib.IsBuilderF 68 5 B b (Lib.byteCells l) w

theorem Bd.new (w : World) : Bd w.heap.size w.heap.size [] (w.alloc (.cells #[.pointer none, .slice none 0 0] 68)) := Lib.IsBuilderF.of (Lib.fresh_isBuilder _ _ w)
theorem BdAt.fresh {T e : TypeId} {B b : Nat} {p : Value} {bs : List Value} {w w' : World} (h : Lib.BuilderAtF T e B b p bs w) (f : Fresh w w') : Lib.BuilderAtF T e B b p bs w' := by
  have hlt := h.lt
  obtain ⟨hB, v, hb, hown, hne⟩ := h
  refine ⟨hB, v, (f.block b hlt (fun e => e)).trans hb, hown.kept (f.grownBy (r := none) (fun _ _ h => h.elim)) ?_, hne⟩
  cases hv : v.ownBlock <;> simp
theorem Bd.fresh {B b : Nat} {l : List UInt8} {w w' : World} (h : Bd B b l w) (f : Fresh w w') : Bd B b l w' := h.elim (fun x => .inl (BdAt.fresh x f)) (fun x => .inr (BdAt.fresh x f))
/-- What a builder's call leaves alone. -/
structure BdKept (B b : Nat) (w w' : World) : Prop where
  below : Below B w w'
  others : Lib.OthersKept 5 (some b) w w'
theorem BdKept.fresh {B b : Nat} {w0 w w' : World} (h : BdKept B b w w') (f : Fresh w0 w) (hB : w0.heap.size ≤ B) : Fresh w0 w' :=
  ⟨h.below.os.trans f.os, h.below.tape.trans f.tape, h.below.output.trans f.output, Nat.le_trans f.size h.below.size, fun k hk hs => (h.below.block k (by omega)).trans (f.block k hk hs)⟩
theorem BdKept.blk {B b g : Nat} {t : TypeId} {cs : List Value} {w w' : World} (h : BdKept B b w w') (hb : Blk w g t cs) (hg : g ≠ b) (ht : t ≠ 5) : Blk w' g t cs :=
  h.others g _ hb (fun e => hg (Option.some.inj e)) (fun c fz e => by injection e with _ e2 _; exact ht e2)
theorem BdKept.sl {α : Type} {E : El α} {A : Option Addr} {c : Nat} {L : List α} {B b : Nat} {w w' : World} (h : BdKept B b w w') (hs : Sl E w A c L) (hA : ∀ ad, A = some ad → ad.block ≠ b) (ht : E.e ≠ 5) : Sl E w' A c L := by
  refine hs.keep fun ad ha => ?_
  obtain ⟨_, cs, hb, _⟩ := hs.2.2.2 ad ha
  exact (h.blk hb (hA ad ha) ht).trans hb.symm
theorem wrs_any (B b : Nat) (l m : List UInt8) (w : World) (h : Bd B b l w) (hl : l.length + m.length ≤ 1000000) (hB : B ≤ w.heap.size) :
    Calls Tryd.prog 24 #[.pointer (some ⟨b, 0, none⟩), .string (Wh.B m)] w fun e w' => e = .returned (.tuple #[.int .i64 (m.length : Int), .nilIface]) ∧ Bd B b (l ++ m) w' ∧ BdKept B b w w' := by
  refine (Any.Builder_WriteString_k ({ Tryd.lays105 with } : Lays.n166 Tryd.prog Tryd.lays105_ren) Tryd.Builder_Extra_105 B b (Lib.byteCells l) (Wh.B m) w h (by rw [Lib.byteCells_length, Wh.B_size]; omega) hB).mono ?_
  rintro e w' ⟨rfl, h1, h2, h3⟩
  refine ⟨by rw [Wh.B_size], .inr ?_, h2, h3⟩
  rw [Lib.byteCells_append]
  exact h1
theorem bstr_any (B b : Nat) (l : List UInt8) (w : World) (h : Bd B b l w) (hB : B ≤ w.heap.size) :
    Calls Tryd.prog 29 #[.pointer (some ⟨b, 0, none⟩)] w fun e w' => e = .returned (.string (Wh.B l)) ∧ BdKept B b w w' := by
  refine (Tryd.Builder_String_any_k B b l w h hB).mono ?_
  rintro e w' ⟨rfl, _, h2, h3⟩
  exact ⟨rfl, h2, h3⟩
end Go.Proofs.YtpifgpmjnjbecaaDoor

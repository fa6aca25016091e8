/-
  slices.SortFunc at spans, by the first number: the slice is sorted in place, its spans are the same; a nil slice stays.
-/
import Derived.Test.YtngljhpplmbglaaLay
import Derived.Test.YtngljhpplmbglaaSpanE
import Derived.Shelf.SlSortCmp.WholeK
import Derived.Test.YtngljhpplmbglaaSortP
namespace Go.Proofs.Ytngljhpplmbglaa
open Go.RowKit Go.Shelf Go.Lib

theorem ins_none (w : World) : Calls Try.prog 84 #[.slice none 0 0, .int .i64 0, .int .i64 0, .func (.func 66) #[] #[]] w fun e w' => e = .returned (.tuple #[]) ∧ w' = w := by
  go_enter Try.func84, Try.ntmps84
  go_wp2_with fail
  go_loopw [8] (fun i wr => i = .int .i64 1 ∧ wr = w) (fun _ _ => 0)
  case atStart => exact ⟨rfl, rfl⟩
  case round =>
    obtain ⟨rfl, rfl⟩ := hrel
    go_wp2
    go_end0
    exact ⟨rfl, rfl⟩

theorem pdq_none (w : World) : Calls Try.prog 72 #[.slice none 0 0, .int .i64 0, .int .i64 0, .int .i64 0, .func (.func 66) #[] #[]] w fun e w' => e = .returned (.tuple #[]) ∧ w' = w := by
  go_enter Try.func72, Try.ntmps72
  go_wp2_with fail
  go_loopw [1, 2, 3] (fun a b l wr => a = .int .i64 0 ∧ b = .int .i64 0 ∧ l = .int .i64 0 ∧ wr = w) (fun _ _ _ _ => 0)
  case atStart => exact ⟨rfl, rfl, rfl, rfl⟩
  case round =>
    obtain ⟨rfl, rfl, rfl, rfl⟩ := hrel
    go_wp2_with fail
    refine (ins_none _).mono ?_
    rintro e w2 ⟨rfl, rfl⟩
    go_wp2
    refine bodyPost_ret (results_none rfl _ _ _) rfl ?_
    exact ⟨rfl, rfl⟩

theorem sort_none (w : World) : Calls Try.prog 65 #[.slice none 0 0, .func (.func 66) #[] #[]] w fun e w' => e = .returned (.tuple #[]) ∧ w' = w := by
  have hlen : ∀ W, Calls Try.prog 71 #[.int .u64 0] W fun e w' => e = .returned (.int .i64 0) ∧ w' = W := fun W => (Any.bits_Len Try.bitsLen2 0 W (by omega) (by omega)).mono fun _ _ h => ⟨h.1.trans (by rw [show (Lib.bitLen (0 : Int).toNat) = 0 by decide]; rfl), h.2⟩
  go_enter Try.func65, Try.ntmps65
  go_wp2_with fail
  refine (hlen _).mono ?_
  rintro e w2 ⟨rfl, rfl⟩
  go_wp2_with fail
  refine (pdq_none _).mono ?_
  rintro e w2 ⟨rfl, rfl⟩
  go_wp2
  go_end0
  exact ⟨rfl, rfl⟩
end Go.Proofs.Ytngljhpplmbglaa

namespace Go.Proofs.Ytngljhpplmbglaa
open Go.RowKit Go.Sort Go.Shelf Go.Lib

theorem cmp_any (x y : Int × Int) (W : World) : Calls Try.prog 66 #[.agg #[.int .i64 x.1, .int .i64 x.2], .agg #[.int .i64 y.1, .int .i64 y.2]] W fun e w' => e = .returned (.int .i64 (Lib.compareInt x.1 y.1)) ∧ ∃ q os', w' = grow (W.drewN q) os' := by
  have hcon := fun W' => AnyG.cmp_Compare_int Try.cmpInt x.1 y.1 W'
  change ∀ W', Calls Try.prog 67 _ _ _ at hcon
  generalize Lib.compareInt x.1 y.1 = r at hcon ⊢
  go_enter Try.func66, Try.ntmps66
  go_wp2_with (go_at_call 67; refine (hcon _).mono ?_; rintro e w' ⟨rfl, rfl⟩)
  go_ret
  exact ⟨rfl, 0, _, by rw [alloc_eq_grow, alloc_eq_grow, grow_grow]; rfl⟩

theorem ltLo (x y : Int × Int) : ltOf (fun x y : Int × Int => Lib.compareInt x.1 y.1) x y = decide (x.1 < y.1) := by
  unfold ltOf Lib.compareInt
  by_cases h1 : x.1 < y.1
  · simp [h1]
  · by_cases h2 : y.1 < x.1 <;> simp [h1, h2]

theorem swoLo : SWO (ltOf fun x y : Int × Int => Lib.compareInt x.1 y.1) where
  irrefl x := by rw [ltLo]; simp
  trans x y z h1 h2 := by rw [ltLo] at *; simp at *; omega
  ntrans x y z h1 h2 := by rw [ltLo] at *; simp at *; omega

def SortPost (l : List (Int × Int)) (A : Option Addr) (c : Nat) (w : World) (e : Ending) (w' : World) : Prop :=
  e = .returned (.tuple #[]) ∧ ∃ l', List.Perm l' l ∧ l'.Pairwise (fun x y => x.1 ≤ y.1) ∧ Sl spanE w' A c l' ∧ Touch (fun k => A.map Addr.block = some k) w w'

theorem sort_some (g o c : Nat) (l : List (Int × Int)) (w : World) (h : Sl spanE w (some ⟨g, o, none⟩) c l) (hl : l.length < 4611686018427387904) :
    Calls Try.prog 65 #[.slice (some ⟨g, o, none⟩) l.length c, .func (.func 66) #[] #[]] w (SortPost l (some ⟨g, o, none⟩) c w) := by
  have eg : ∀ args w, (callFunc 66 args).run Try.prog w = .ok (.enter 66 args) w := enters_of Try.func66 (by kernel_rfl) rfl
  have hcon := AnyQ.slices_SortFunc Try.sortSpan 2 Try.isAgg97 Try.sizeOf97 spanE.enc (fun _ => rfl) (fun x v hv => by simp [spanE] at hv; rcases hv with rfl | rfl <;> rfl) (fun x y => Lib.compareInt x.1 y.1) swoLo 66 #[] g o c l.toArray w eg (fun _ _ _ _ x y => cmp_any x y _) h.holdsK (h.lt _ rfl) (by simpa using hl)
  refine hcon.mono ?_
  rintro e w' ⟨rfl, d', n, os, hp, hs, rfl⟩
  have hsz : d'.size = l.length := by simpa using hp.1
  refine ⟨rfl, d'.toList, by simpa using permIn_list hp, ?_, Sl.sorted h (l' := d'.toList) (by simpa using hsz) n os, (sorted_touch n d' os).mono fun k _ e => by simp [e]⟩
  rw [List.pairwise_iff_getElem]
  intro i j hi hj hij
  have := hs i j (by omega) hij (by simpa [hsz] using hj)
  rw [ltLo] at this
  have hi' : i < d'.size := by simpa using hi
  have hj' : j < d'.size := by simpa using hj
  rw [getElem!_pos d' i hi', getElem!_pos d' j hj'] at this
  simp at this
  simpa using this

theorem sort_any (A : Option Addr) (c : Nat) (l : List (Int × Int)) (w : World) (h : Sl spanE w A c l) (hl : l.length < 4611686018427387904) :
    Calls Try.prog 65 #[.slice A l.length c, .func (.func 66) #[] #[]] w (SortPost l A c w) := by
  cases A with
  | none =>
    obtain rfl : c = 0 := h.2.2.1 rfl
    obtain rfl : l = [] := List.eq_nil_of_length_eq_zero (by have := h.1; omega)
    refine (sort_none w).mono ?_
    rintro e w' ⟨rfl, rfl⟩
    exact ⟨rfl, [], List.Perm.refl _, List.Pairwise.nil, h, Touch.refl _ _⟩
  | some ad =>
    obtain ⟨g, o, s⟩ := ad
    obtain rfl : s = none := (h.2.2.2 _ rfl).1
    exact sort_some g o c l w h hl
end Go.Proofs.Ytngljhpplmbglaa

/-
  slices.SortFunc at spans, by the first number: the slice is sorted in place, its spans are the same; a nil slice stays.
-/
import Derived.Shelf.SlSortCmp.WholeK
import Derived.Test.YtajdnllkkekmnaaLay
import Derived.Test.YtajdnllkkekmnaaSortP
import Derived.Test.YtajdnllkkekmnaaSpanE
import Derived.Test.YtajdnllkkekmnaaSort0
namespace Go.Proofs.Ytajdnllkkekmnaa
open Go.RowKit Go.Sort Go.Shelf Go.Lib

theorem cmp_any (x y : Int × Int) (W : World) : Calls Try.prog 54 #[.agg #[.int .i64 x.1, .int .i64 x.2], .agg #[.int .i64 y.1, .int .i64 y.2]] W fun e w' => e = .returned (.int .i64 (Lib.compareInt x.1 y.1)) ∧ ∃ q os', w' = grow (W.drewN q) os' := by
  have hcon := fun W' => AnyG.cmp_Compare_int Try.cmpInt x.1 y.1 W'
  change ∀ W', Calls Try.prog 55 _ _ _ at hcon
  generalize Lib.compareInt x.1 y.1 = r at hcon ⊢
  go_enter Try.func54, Try.ntmps54
  go_wp2_with (go_at_call 55; refine (hcon _).mono ?_; rintro e w' ⟨rfl, rfl⟩)
  go_ret
  exact ⟨rfl, 0, _, by rw [alloc_eq_grow, alloc_eq_grow, grow_grow]; rfl⟩

theorem ltLo (x y : Int × Int) : ltOf (fun x y : Int × Int => Lib.compareInt x.1 y.1) x y = decide (x.1 < y.1) := by
  unfold ltOf Lib.compareInt
  by_cases h1 : x.1 < y.1
  · simp [h1]
  · by_cases h2 : y.1 < x.1 <;> simp [h1, h2]

theorem swoLo : SWO (ltOf fun x y : Int × Int => Lib.compareInt x.1 y.1) where
  irrefl x := by rw [ltLo]; simp
  trans x y z h1 h2 := by rw [ltLo] at *; simp at *; omega
  ntrans x y z h1 h2 := by rw [ltLo] at *; simp at *; omega

def SortPost (l : List (Int × Int)) (A : Option Addr) (c : Nat) (w : World) (e : Ending) (w' : World) : Prop :=
  e = .returned (.tuple #[]) ∧ ∃ l', List.Perm l' l ∧ l'.Pairwise (fun x y => x.1 ≤ y.1) ∧ Sl spanE w' A c l' ∧ Touch (fun k => A.map Addr.block = some k) w w'

theorem sort_some (g o c : Nat) (l : List (Int × Int)) (w : World) (h : Sl spanE w (some ⟨g, o, none⟩) c l) (hl : l.length < 4611686018427387904) :
    Calls Try.prog 53 #[.slice (some ⟨g, o, none⟩) l.length c, .func (.func 54) #[] #[]] w (SortPost l (some ⟨g, o, none⟩) c w) := by
  have eg : ∀ args w, (callFunc 54 args).run Try.prog w = .ok (.enter 54 args) w := enters_of Try.func54 (by kernel_rfl) rfl
  have hcon := AnyQ.slices_SortFunc Try.sortSpan 2 Try.isAgg79 Try.sizeOf79 spanE.enc (fun _ => rfl) (fun x v hv => by simp [spanE] at hv; rcases hv with rfl | rfl <;> rfl) (fun x y => Lib.compareInt x.1 y.1) swoLo 54 #[] g o c l.toArray w eg (fun _ _ _ _ x y => cmp_any x y _) h.holdsK (h.lt _ rfl) (by simpa using hl)
  refine hcon.mono ?_
  rintro e w' ⟨rfl, d', n, os, hp, hs, rfl⟩
  have hsz : d'.size = l.length := by simpa using hp.1
  refine ⟨rfl, d'.toList, by simpa using permIn_list hp, ?_, Sl.sorted h (l' := d'.toList) (by simpa using hsz) n os, (sorted_touch n d' os).mono fun k _ e => by simp [e]⟩
  rw [List.pairwise_iff_getElem]
  intro i j hi hj hij
  have := hs i j (by omega) hij (by simpa [hsz] using hj)
  rw [ltLo] at this
  have hi' : i < d'.size := by simpa using hi
  have hj' : j < d'.size := by simpa using hj
  rw [getElem!_pos d' i hi', getElem!_pos d' j hj'] at this
  simp at this
  simpa using this

theorem sort_any (A : Option Addr) (c : Nat) (l : List (Int × Int)) (w : World) (h : Sl spanE w A c l) (hl : l.length < 4611686018427387904) :
    Calls Try.prog 53 #[.slice A l.length c, .func (.func 54) #[] #[]] w (SortPost l A c w) := by
  cases A with
  | none =>
    obtain rfl : c = 0 := h.2.2.1 rfl
    obtain rfl : l = [] := List.eq_nil_of_length_eq_zero (by have := h.1; omega)
    refine (sort_none w).mono ?_
    rintro e w' ⟨rfl, rfl⟩
    exact ⟨rfl, [], List.Perm.refl _, List.Pairwise.nil, h, Touch.refl _ _⟩
  | some ad =>
    obtain ⟨g, o, s⟩ := ad
    obtain rfl : s = none := (h.2.2.2 _ rfl).1
    exact sort_some g o c l w h hl
end Go.Proofs.Ytajdnllkkekmnaa

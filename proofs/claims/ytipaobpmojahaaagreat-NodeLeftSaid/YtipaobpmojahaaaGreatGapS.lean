/-
  slices.SortFunc at spans, by the first number: the slice is sorted in place, its spans are the same; a nil slice stays · span.Of: of spans the set of their numbers, written in one way · Sets of spans, plain: good sets, how many numbers they have, what the set operations make. No program is named · span: List of a set · A list of spans, laid flat. No walk · gaps.List: a set's pairs · gaps.Set: the set that pairs make, or none.
-/
import Derived.Shelf.SlSortCmp.WholeK
import Derived.Test.YtipaobpmojahaaaGreatLay
import Derived.Test.YtipaobpmojahaaaGreatOpenC
import Derived.Test.YtipaobpmojahaaaGreatSpanE
import Derived.Test.YtipaobpmojahaaaGreatRcv
import Derived.Test.YtipaobpmojahaaaGreatSpanP
import Derived.Deep.DeepCutAuto
import Derived.Deep.QuietTactic
import Derived.BigQuiet
import Derived.StillTailTactics
import Derived.Test.YtipaobpmojahaaaGreatEvD
import Derived.Deep.CutBlock
set_option maxHeartbeats 4000000
namespace Go.Proofs.YtipaobpmojahaaaGreat
open Go.RowKit Go.Sort Go.Shelf Go.Lib

theorem cmp_any (x y : Int × Int) (W : World) : Calls Tryz.prog 245 #[.agg #[.int .i64 x.1, .int .i64 x.2], .agg #[.int .i64 y.1, .int .i64 y.2]] W fun e w' => e = .returned (.int .i64 (Lib.compareInt x.1 y.1)) ∧ ∃ q os', w' = grow (W.drewN q) os' := by
 have hcon := fun W' => AnyG.cmp_Compare_int Tryz.cmpInt x.1 y.1 W'
 change ∀ W', Calls Tryz.prog 246 _ _ _ at hcon
 generalize Lib.compareInt x.1 y.1 = r at hcon ⊢
 go_enter Tryz.func245, Tryz.ntmps245
 go_wp2_with (go_at_call 246; refine (hcon _).mono ?_; rintro e w' ⟨rfl, rfl⟩)
 go_ret
 exact ⟨rfl, 0, _, by rw [alloc_eq_grow, alloc_eq_grow, grow_grow]; rfl⟩

theorem ltLo (x y : Int × Int) : ltOf (fun x y : Int × Int => Lib.compareInt x.1 y.1) x y = decide (x.1 < y.1) := by
 unfold ltOf Lib.compareInt
 by_cases h1 : x.1 < y.1
 ·simp [h1]
 ·by_cases h2 : y.1 < x.1 <;> simp [h1, h2]

theorem swoLo : SWO (ltOf fun x y : Int × Int => Lib.compareInt x.1 y.1) where
 irrefl x := by rw [ltLo]; simp
 trans x y z h1 h2 := by rw [ltLo] at *; simp at *; omega
 ntrans x y z h1 h2 := by rw [ltLo] at *; simp at *; omega

def SortPost (l : List (Int × Int)) (A : Option Addr) (c : Nat) (w : World) (e : Ending) (w' : World) : Prop :=
 e = .returned (.tuple #[]) ∧ ∃ l', List.Perm l' l ∧ l'.Pairwise (fun x y => x.1 <= y.1) ∧ Sl spanE w' A c l' ∧ Touch (fun k => A.map Addr.block = some k) w w'

theorem sort_some (g o c : Nat) (l : List (Int × Int)) (w : World) (h : Sl spanE w (some ⟨g, o, none⟩) c l) (hl : l.length < 4611686018427387904) :
  Calls Tryz.prog 244 #[.slice (some ⟨g, o, none⟩) l.length c, .func (.func 245) #[] #[]] w (SortPost l (some ⟨g, o, none⟩) c w) := by
 have eg : ∀ args w, (callFunc 245 args).run Tryz.prog w = .ok (.enter 245 args) w := enters_of Tryz.func245 (by kernel_rfl) rfl
 have hcon := AnyQ.slices_SortFunc Tryz.sortSpan 2 Tryz.isAgg261 Tryz.sizeOf261 spanE.enc (fun _ => rfl) (fun x v hv => by simp [spanE] at hv; rcases hv with rfl | rfl <;> rfl) (fun x y => Lib.compareInt x.1 y.1) swoLo 245 #[] g o c l.toArray w eg (fun _ _ _ _ x y => cmp_any x y _) h.holdsK (h.lt _ rfl) (by simpa using hl)
 refine hcon.mono ?_
 rintro e w' ⟨rfl, d', n, os, hp, hs, rfl⟩
 have hsz : d'.size = l.length := by simpa using hp.1
 refine ⟨rfl, d'.toList, by simpa using permIn_list hp, ?_, Sl.sorted h (l' := d'.toList) (by simpa using hsz) n os, (sorted_touch n d' os).mono fun k _ e => by simp [e]⟩
 rw [List.pairwise_iff_getElem]
 intro i j hi hj hij
 have := hs i j (by omega) hij (by simpa [hsz] using hj)
 rw [ltLo] at this
 have hi' : i < d'.size := by simpa using hi
 have hj' : j < d'.size := by simpa using hj
 rw [getElem!_pos d' i hi', getElem!_pos d' j hj'] at this
 simp at this
 simpa using this

theorem sort_any (A : Option Addr) (c : Nat) (l : List (Int × Int)) (w : World) (h : Sl spanE w A c l) (hl : l.length < 4611686018427387904) :
  Calls Tryz.prog 244 #[.slice A l.length c, .func (.func 245) #[] #[]] w (SortPost l A c w) := by
 cases A with
 |none =>
  obtain rfl : c = 0 := h.2.2.1 rfl
  obtain rfl : l = [] := List.eq_nil_of_length_eq_zero (by have := h.1; omega)
  refine (sort_none w).mono ?_
  rintro e w' ⟨rfl, rfl⟩
  exact ⟨rfl, [], List.Perm.refl _, List.Pairwise.nil, h, Touch.refl _ _⟩
 |some ad =>
  obtain ⟨g, o, s⟩ := ad
  obtain rfl : s = none := (h.2.2.2 _ rfl).1
  exact sort_some g o c l w h hl
open Go.RowKit

def Apart (B B2 : Option Addr) : Prop := ∀ ad ad', B = some ad -> B2 = some ad' -> ad.block ≠ ad'.block
theorem Apart.app {B B2 B7 : Option Addr} {n : Nat} (h : Apart B B2) (hB : ∀ ad, B = some ad -> ad.block < n) (h7 : B7.map Addr.block = B2.map Addr.block ∨ B7.map Addr.block = some n) : Apart B B7 := fun ad ad' e e' => by
 subst e'
 rcases h7 with e7 | e7
 ·obtain ⟨a2, e1, e2⟩ := Option.map_eq_some_iff.1 e7.symm
  have := h ad a2 e e1
  omega
 ·have := hB ad e
  simp at e7
  omega
theorem Apart.not {B B2 : Option Addr} (h : Apart B B2) : ∀ ad, B = some ad -> ¬ (B2.map Addr.block = some ad.block) := fun ad e e' => by
 obtain ⟨a2, e1, e2⟩ := Option.map_eq_some_iff.1 e'
 exact h ad a2 e e1 e2.symm

namespace Sp
def keep (l : List (Int × Int)) : List (Int × Int) := (l.map near).filter (fun x => decide (x.1 < x.2))
theorem keep_succ (l : List (Int × Int)) (k : Nat) (hk : k < l.length) : keep (l.take (k + 1)) = keep (l.take k) ++ (if (near (l.getD k (0, 0))).1 < (near (l.getD k (0, 0))).2 then [near (l.getD k (0, 0))] else []) := by
 unfold keep
 rw [List.take_succ_eq_append_getElem hk, List.map_append, List.filter_append]
 congr 1
 rw [show l.getD k (0, 0) = l[k] by simp [List.getD, List.getElem?_eq_getElem hk]]
 simp [List.filter_cons]
theorem keep_lt (l : List (Int × Int)) : ∀ x ∈ keep l, x.1 < x.2 := fun x hx => by
 unfold keep at hx
 simpa using (List.mem_filter.1 hx).2
theorem mem_keep (l : List (Int × Int)) (n : Int) : mem (keep l) n ↔ mem (l.map near) n := by
 unfold keep mem
 constructor
 ·rintro ⟨x, hx, h⟩
  exact ⟨x, (List.mem_filter.1 hx).1, h⟩
 ·rintro ⟨x, hx, h⟩
  exact ⟨x, List.mem_filter.2 ⟨hx, by simp; omega⟩, h⟩
def IsOf (l s : List (Int × Int)) : Prop := Canon s ∧ ∀ n, mem s n ↔ mem (l.map near) n
theorem mem_perm {l l' : List (Int × Int)} (h : l'.Perm l) (n : Int) : mem l' n ↔ mem l n := by
 unfold mem
 exact ⟨fun ⟨x, hx, e⟩ => ⟨x, h.mem_iff.1 hx, e⟩, fun ⟨x, hx, e⟩ => ⟨x, h.mem_iff.2 hx, e⟩⟩
theorem isOf_merge {l l' : List (Int × Int)} (hp : l'.Perm (keep l)) (hs : l'.Pairwise (fun x y => x.1 <= y.1)) : IsOf l (l'.foldl mergeStep []) := by
 obtain ⟨h1, h2⟩ := merge_ok l' [] Canon.nil (fun x hx => keep_lt l x (hp.mem_iff.1 hx)) hs (by simp)
 exact ⟨h1, fun n => by rw [h2, mem_perm hp, mem_keep]; simp [mem_nil]⟩
theorem merge_succ (l : List (Int × Int)) (k : Nat) (hk : k < l.length) : (l.take (k + 1)).foldl mergeStep [] = mergeStep ((l.take k).foldl mergeStep []) (l.getD k (0, 0)) := by
 rw [List.take_succ_eq_append_getElem hk, List.foldl_append]
 simp [List.getD, List.getElem?_eq_getElem hk]
theorem mergeStep_nil (x : Int × Int) : mergeStep [] x = [x] := rfl
theorem mergeStep_snoc (o : List (Int × Int)) (y x : Int × Int) : mergeStep (o ++ [y]) x = if x.1 <= y.2 then o ++ [(y.1, max y.2 x.2)] else o ++ [y] ++ [x] := by
 unfold mergeStep
 simp
end Sp

set_option maxRecDepth 4000 in
theorem of_any (A : Option Addr) (c : Nat) (l : List (Int × Int)) (w : World) (h : Rd spanE w A c l) (hl : l.length <= 1099511627776) :
  Calls Tryz.prog 176 #[.slice A l.length c] w fun e w' => ∃ B d S, e = .returned (.slice B S.length d) ∧ Mine spanE w w' B d S ∧ Sp.IsOf l S ∧ S.length <= l.length := by
 have hlc := h.1
 have hcm := h.2.1
 unfold maxLen at hcm
 have H := lh h
 clear h
 go_enter Tryz.func176, Tryz.ntmps176
 go_wp2_with fail
 go_loopw [3, 12] (fun s3 i wr => ∃ (k : Nat) (B : Option Addr) (d : Nat) (M : List (Int × Int)), k <= l.length ∧ i = .int .i64 k ∧ s3 = .slice B M.length d ∧ Hid (M = Sp.keep (l.take k)) ∧ Hid (Mine spanE w wr B d M) ∧ M.length <= k) (fun _ i _ => l.length - (intOf i).toNat)
 case atStart => exact ⟨0, none, 0, [], by omega, rfl, rfl, rfl, Mine.nil _ _, by simp⟩
 case round =>
  obtain ⟨k, B, d, M, hkL, rfl, rfl, HMe, HM, hMl⟩ := hrel
  by_cases hk : k < l.length
  ·have hk1 : (k : Int) < (l.length : Int) := by omega
   have hk0 : (0 : Int) <= (k : Int) := by omega
   obtain ⟨g, o, rfl, _, c0, c1⟩ := (HM.out.keepsR H.out).span_at k hk
   have HS := lh (Sp.keep_succ l k hk)
   generalize l.getD k (0, 0) = a at *
   rw [<- HMe.out] at HS
   obtain ⟨x, y⟩ := a
   simp only at c0 c1
   go_wp2_with fail
   refine (near_any15 (x, y) _).mono ?_
   rintro e w2 ⟨rfl, f2⟩
   have B2 : Hid (Blk w2 wr.heap.size 261 [.int .i64 x, .int .i64 y]) := f2.blk (Blk.new wr 261 [.int .i64 x, .int .i64 y]) (fun h => h)
   have T2 : Hid (Fresh wr w2) := ((Touch.refl _ wr).alloc _).trans f2 (fun _ _ h => h)
   have b0 : w2.cell? ⟨wr.heap.size, 0, none⟩ = some (.int .i64 x) := B2.out.cell 0
   have b1 : w2.cell? ⟨wr.heap.size, 1, none⟩ = some (.int .i64 y) := B2.out.cell 1
   have bf0 := B2.out.frozen 0
   have bf1 := B2.out.frozen 1
   clear f2 c0 c1
   obtain ⟨p, hp⟩ := xq (Sp.near (x, y))
   rw [<- hp] at HS ⊢
   clear hp
   obtain ⟨a, b⟩ := p
   simp only at HS ⊢
   go_wp2_with fail
   refine (empty_any15 (a, b) _).mono ?_
   rintro e w3 ⟨rfl, f3⟩
   have B3 : Hid (Blk w3 wr.heap.size 261 [.int .i64 a, .int .i64 b]) := f3.blk ((B2.out.set 0 (.int .i64 a)).set 1 (.int .i64 b)) (fun h => h)
   have T3 : Hid (Fresh wr w3) := ((T2.out.setCell (fun e => absurd e (Nat.lt_irrefl _)) _).setCell (fun e => absurd e (Nat.lt_irrefl _)) _).trans f3 (fun _ _ h => h)
   have M3 := lh (HM.out.old T3.out)
   clear b0 b1 bf0 bf1 f3 B2 T2 HM
   have b0 : w3.cell? ⟨wr.heap.size, 0, none⟩ = some (.int .i64 a) := B3.out.cell 0
   have b1 : w3.cell? ⟨wr.heap.size, 1, none⟩ = some (.int .i64 b) := B3.out.cell 1
   simp only
   have hM2 : M.length + 1 <= 8796093022208 := by omega
   by_cases hab : a < b
   ·have hba : ¬ b <= a := by omega
    rw [if_pos hab] at HS
    have R3 : Hid (Rd spanE (w3.alloc (.cells #[.int .i64 a, .int .i64 b] 261)) (some ⟨w3.heap.size, 0, none⟩) 1 [(a, b)]) :=
     Sl.rd (Sl.lit spanE w3 _ rfl #[.int .i64 a, .int .i64 b] [(a, b)] rfl 1 rfl (by decide))
    go_wp2_with (at_builtin; refine app_span Tryz.underlying176 rfl rfl (l := M) (l2 := [(a, b)]) rfl rfl (M3.out.sl.alloc _) R3.out (by simp; omega) ?_; intro B4 d4 M4 w4 hM4 hs4 ht4 hB4)
    have M5 := lh ((M3.out.alloc _).app hs4 ht4 hB4)
    have HM4 : Hid (M4 = Sp.keep (l.take (k + 1))) := by unfold Hid; rw [HS.out, hM4.out]
    have hl4 : M4.length <= k + 1 := by rw [hM4.out]; simp; omega
    clear hs4 ht4 hB4 hM4 R3 b0 b1 B3 T3 M3 HS
    go_roundw
    case rel => exact ⟨k + 1, B4, d4, M4, by omega, by go_num, rfl, HM4, M5, hl4⟩
    case measure => simp [intOf]; omega
   ·have hba : b <= a := by omega
    rw [if_neg hab, List.append_nil] at HS
    have HM4 : Hid (M = Sp.keep (l.take (k + 1))) := HS.out.symm
    clear B3 T3 HS b0 b1
    go_wp2
    go_roundw
    case rel => exact ⟨k + 1, B, d, M, by omega, by go_num, rfl, HM4, M3, by omega⟩
    case measure => simp [intOf]; omega
  ·have hkk : k = l.length := by omega
   have HK : Hid (M = Sp.keep l) := by unfold Hid; rw [HMe.out, hkk, List.take_length]
   have hk' : ¬ ((k : Int) < (l.length : Int)) := by omega
   have hMb : M.length < 4611686018427387904 := by omega
   have hMl' : M.length <= l.length := by omega
   clear hk HMe hkk
   go_wp2_with fail
   refine (sort_any B d M wr HM.out.sl hMb).mono ?_
   rintro e w2 ⟨rfl, L, hp, hs, hsl, ht⟩
   have hL := hp.length_eq
   have HO : Hid (Sp.IsOf l (L.foldl Sp.mergeStep [])) := Sp.isOf_merge (HK.out ▸ hp) hs
   have ML : Hid (Mine spanE w w2 B d L) := ⟨hsl, HM.out.fresh.trans ht (fun k hk e => by
    obtain ⟨ad, e1, e2⟩ := Option.map_eq_some_iff.1 e
    have := HM.out.base ad e1
    omega), HM.out.base⟩
   have ML0 : Hid (Mine spanE w w2 none 0 []) := ⟨Sl.nil _ _, ML.out.fresh, fun _ e => nomatch e⟩
   rw [<- hL]
   have hLl : L.length <= l.length := by omega
   clear hp hs hsl ht HM HK hMb hMl hL hk' hMl'
   go_wp2_with fail
   go_loopw [6, 30] (fun s6 i wx => ∃ (j : Nat) (B2 : Option Addr) (d2 : Nat) (O : List (Int × Int)), j <= L.length ∧ i = .int .i64 j ∧ s6 = .slice B2 O.length d2 ∧ Hid (O = (L.take j).foldl Sp.mergeStep []) ∧ Hid (Mine spanE w wx B2 d2 O) ∧ Hid (Mine spanE w wx B d L) ∧ Hid (Apart B B2) ∧ O.length <= j) (fun _ i _ => L.length - (intOf i).toNat)
   case atStart => exact ⟨0, none, 0, [], by omega, rfl, rfl, rfl, ML0, ML, (fun _ _ _ e => nomatch e), by simp⟩
   case round =>
    clear ML ML0 H
    obtain ⟨j, B2, d2, O, hjL, rfl, rfl, HOe, M2, ML, HBB, hOl⟩ := hrel
    by_cases hj : j < L.length
    ·have hj1 : (j : Int) < (L.length : Int) := by omega
     have hj0 : (0 : Int) <= (j : Int) := by omega
     obtain ⟨g, o, rfl, hg, c0, c1⟩ := ML.out.sl.span_at j hj
     have HS := lh (Sp.merge_succ L j hj)
     generalize L.getD j (0, 0) = a at *
     rw [<- HOe.out] at HS
     obtain ⟨x, y⟩ := a
     simp only at c0 c1
     go_upto_region 14 with (fail)
     have B5 := lh (Blk.new wr 261 [.int .i64 x, .int .i64 y])
     have M5 := lh (M2.out.alloc (.cells #[.int .i64 x, .int .i64 y] 261))
     have ML5 := lh (ML.out.alloc (.cells #[.int .i64 x, .int .i64 y] 261))
     generalize hw5 : wr.alloc (.cells #[.int .i64 x, .int .i64 y] 261) = w5 at *
     have e0 : w5.cell? ⟨wr.heap.size, 0, none⟩ = some (.int .i64 x) := B5.out.cell 0
     have e1 : w5.cell? ⟨wr.heap.size, 1, none⟩ = some (.int .i64 y) := B5.out.cell 1
     have hne : Hid (Apart (some ⟨g, o, none⟩) B2) := HBB.out
     have hgw : g < w5.heap.size := ML5.out.sl.lt _ rfl
     clear c0 c1 HBB M2 ML hw5 hg
     have hO2 : O.length + 1 <= 8796093022208 := by omega
     rcases List.eq_nil_or_concat O with rfl | ⟨O0, q, rfl⟩
     ·rw [Sp.mergeStep_nil] at HS
      obtain ⟨z, hz⟩ : ∃ z : Int, (([] : List (Int × Int)).length : Int) - 1 = z := ⟨_, rfl⟩
      have hz0 : z < 0 := by rw [<- hz]; decide
      have hd : decide (0 <= z) = false := decide_eq_false (by omega)
      go_upto_region 15 with (fail)
      go_quiet (fail)
      have M6 := lh (M5.out.drewN nq)
      have ML6 := lh (ML5.out.drewN nq)
      have R6 := lh (Sl.rd (Sl.lit spanE (w5.drewN nq) _ rfl #[.int .i64 x, .int .i64 y] [(x, y)] rfl 1 rfl (by decide)))
      have e0' : (w5.drewN nq).cell? ⟨wr.heap.size, 0, none⟩ = some (.int .i64 x) := e0
      have e1' : (w5.drewN nq).cell? ⟨wr.heap.size, 1, none⟩ = some (.int .i64 y) := e1
      have hgw' : g < (w5.drewN nq).heap.size := hgw
      clear e0 e1 hgw M5 ML5 B5
      generalize w5.drewN nq = w6 at *
      go_wp2_with (at_builtin; refine app_span Tryz.underlying177 rfl rfl (l := []) (l2 := [(x, y)]) rfl rfl (M6.out.sl.alloc _) R6.out (by simp) ?_; intro B7 d7 O7 w7 hO7 hs7 ht7 hB7)
      have M7 := lh ((M6.out.alloc _).app hs7 ht7 hB7)
      have hgw7 : g < (w6.alloc (.cells #[.int .i64 x, .int .i64 y] 261)).heap.size := by simp; omega
      have ML7 : Hid (Mine spanE w w7 (some ⟨g, o, none⟩) d L) := ⟨(ML6.out.sl.alloc _).touch ht7 hne.out.not, M7.out.fresh, ML6.out.base⟩
      have HA7 : Hid (Apart (some ⟨g, o, none⟩) B7) := hne.out.app (fun ad e => by injection e with e; subst e; exact hgw7) hB7
      have HO7 : Hid (O7 = (L.take (j + 1)).foldl Sp.mergeStep []) := by unfold Hid; rw [hO7.out, HS.out]; rfl
      have hl7 : O7.length <= j + 1 := by rw [hO7.out]; simp
      clear hs7 ht7 hB7 hO7 R6 e0' e1' M6 ML6 HS hne HOe hgw7 hgw'
      go_roundw
      case rel => exact ⟨j + 1, B7, d7, O7, by omega, by go_num, rfl, HO7, M7, ML7, HA7, hl7⟩
      case measure => simp [intOf]; omega
     ·rw [List.concat_eq_append] at *
      rw [Sp.mergeStep_snoc] at HS
      obtain ⟨g2, o2, rfl, hg2, f0, f1⟩ := M5.out.sl.span_at O0.length (by simp)
      have hq : (O0 ++ [q]).getD O0.length (0, 0) = q := by simp
      rw [hq] at f0 f1
      obtain ⟨p, q⟩ := q
      simp only at f0 f1 HS
      have hgg : g ≠ g2 := hne.out _ _ rfl rfl
      have hOl2 : (O0 ++ [(p, q)]).length = O0.length + 1 := by simp
      rw [hOl2]
      have hm0 : (0 : Int) <= (O0.length : Int) := by omega
      have hm1 : (O0.length : Int) < ((O0.length + 1 : Nat) : Int) := by omega
      have hm2 : (O0.length : Int) < (O0.length : Int) + 1 := by omega
      have hOl3 : O0.length + 1 <= j := by rw [<- hOl2]; exact hOl
      by_cases hxq : x <= q
      ·rw [if_pos hxq] at HS
       go_upto_region 15 with (fail)
       go_quiet (fail)
       have M6 := lh (M5.out.drewN nq)
       have ML6 := lh (ML5.out.drewN nq)
       have e1' : (w5.drewN nq).cell? ⟨wr.heap.size, 1, none⟩ = some (.int .i64 y) := e1
       have f1' : (w5.drewN nq).cell? ⟨g2, o2 + O0.length * 2 + 1, none⟩ = some (.int .i64 q) := f1
       have fz := M6.out.sl.frozen g2 o2 rfl (o2 + O0.length * 2 + 1)
       clear e0 e1 f0 f1 hgw M5 ML5 B5
       generalize w5.drewN nq = w6 at *
       have hi : O0.length < (O0 ++ [(p, q)]).length := by omega
       have S7 := lh (M6.out.sl.put (i := O0.length) (f := 1) (a := (p, max q y)) (u := .int .i64 (max q y)) hi (by decide) (by simp [spanE]))
       have T7 : Hid (Touch (fun k => k = g2) w6 (w6.setCell ⟨g2, o2 + O0.length * 2 + 1, none⟩ (.int .i64 (max q y))).drew) := (Touch.set1 w6 g2 _ _).drew
       have hLe : Hid ((O0 ++ [(p, q)]).set O0.length (p, max q y) = O0 ++ [(p, max q y)]) := by unfold Hid; simp
       have hl7 : (O0 ++ [(p, max q y)]).length = O0.length + 1 := by simp
       go_upto_region 16 with (fail)
       go_still_tail 12, (by kernel_rfl)
       change wpList _ _ _ _ _ w6.drew
       go_wp2_with fail
       have M7 : Hid (Mine spanE w (w6.setCell ⟨g2, o2 + O0.length * 2 + 1, none⟩ (.int .i64 (max q y))).drew (some ⟨g2, o2, none⟩) d2 (O0 ++ [(p, max q y)])) := ⟨by have := S7.out; rw [hLe.out] at this; exact this, M6.out.fresh.trans T7.out (fun k hk e => by have := M6.out.base _ rfl; simp only at this; omega), M6.out.base⟩
       have ML7 : Hid (Mine spanE w (w6.setCell ⟨g2, o2 + O0.length * 2 + 1, none⟩ (.int .i64 (max q y))).drew (some ⟨g, o, none⟩) d L) := ⟨ML6.out.sl.touch T7.out (fun ad e e' => by injection e with e; subst e; exact hgg e'), M7.out.fresh, ML6.out.base⟩
       refine ⟨⟨j + 1, _, d2, O0 ++ [(p, max q y)], by omega, by go_num, by rw [hl7], HS.out.symm, M7, ML7, hne, by omega⟩, by simp [intOf]; omega⟩
      ·rw [if_neg hxq] at HS
       have hqx : q < x := by omega
       go_upto_region 15 with (fail)
       go_quiet (fail)
       have M6 := lh (M5.out.drewN nq)
       have ML6 := lh (ML5.out.drewN nq)
       have R6 := lh (Sl.rd (Sl.lit spanE (w5.drewN nq) _ rfl #[.int .i64 x, .int .i64 y] [(x, y)] rfl 1 rfl (by decide)))
       have e0' : (w5.drewN nq).cell? ⟨wr.heap.size, 0, none⟩ = some (.int .i64 x) := e0
       have e1' : (w5.drewN nq).cell? ⟨wr.heap.size, 1, none⟩ = some (.int .i64 y) := e1
       have hgw' : g < (w5.drewN nq).heap.size := hgw
       clear e0 e1 hgw M5 ML5 B5 f0 f1
       generalize w5.drewN nq = w6 at *
       go_wp2_with (at_builtin; refine app_span Tryz.underlying177 rfl rfl (l := O0 ++ [(p, q)]) (l2 := [(x, y)]) (by rw [hOl2]; rfl) rfl (M6.out.sl.alloc _) R6.out (by simp; omega) ?_; intro B7 d7 O7 w7 hO7 hs7 ht7 hB7)
       have M7 := lh ((M6.out.alloc _).app hs7 ht7 hB7)
       have hgw7 : g < (w6.alloc (.cells #[.int .i64 x, .int .i64 y] 261)).heap.size := by simp; omega
       have ML7 : Hid (Mine spanE w w7 (some ⟨g, o, none⟩) d L) := ⟨(ML6.out.sl.alloc _).touch ht7 hne.out.not, M7.out.fresh, ML6.out.base⟩
       have HA7 : Hid (Apart (some ⟨g, o, none⟩) B7) := hne.out.app (fun ad e => by injection e with e; subst e; exact hgw7) hB7
       have HO7 : Hid (O7 = (L.take (j + 1)).foldl Sp.mergeStep []) := by unfold Hid; rw [hO7.out, HS.out]
       have hl7 : O7.length <= j + 1 := by rw [hO7.out]; simp; omega
       clear hs7 ht7 hB7 hO7 R6 e0' e1' M6 ML6 HS hne HOe hgw7 hgw'
       go_roundw
       case rel => exact ⟨j + 1, B7, d7, O7, by omega, by go_num, rfl, HO7, M7, ML7, HA7, hl7⟩
       case measure => simp [intOf]; omega
    ·have hjj : j = L.length := by omega
     have HK : Hid (Sp.IsOf l O) := by unfold Hid; rw [HOe.out, hjj, List.take_length]; exact HO.out
     have hj' : ¬ ((j : Int) < (L.length : Int)) := by omega
     have hOl' : O.length <= l.length := by omega
     clear hj HOe hjj HO ML HBB
     go_wp2
     go_ret
     exact ⟨B2, d2, O, rfl, M2.out, HK.out, hOl'⟩
end Go.Proofs.YtipaobpmojahaaaGreat
namespace Go.Proofs.YtipaobpmojahaaaGreat.Sp

def In (x : Int × Int) (n : Int) : Prop := x.1 <= n ∧ n < x.2
def Good (s : List (Int × Int)) : Prop := Canon s ∧ ∀ x ∈ s, -1099511627776 <= x.1 ∧ x.2 <= 1099511627777
theorem near_bd (x : Int × Int) : -1099511627776 <= (near x).1 ∧ (near x).1 <= 1099511627776 ∧ -1099511627776 <= (near x).2 ∧ (near x).2 <= 1099511627777 := by
 unfold near clampF clampT
 simp only
 omega
theorem near_id (x : Int × Int) (h1 : -1099511627776 <= x.1) (h2 : x.1 <= 1099511627776) (h3 : -1099511627776 <= x.2) (h4 : x.2 <= 1099511627777) : near x = x := by
 obtain ⟨a, b⟩ := x
 unfold near clampF clampT
 simp only at *
 congr 1 <;> omega
theorem mem_map_near (l : List (Int × Int)) (n : Int) : mem (l.map near) n ↔ ∃ x ∈ l, In (near x) n := by
 unfold mem In
 constructor
 ·rintro ⟨x, hx, h⟩
  obtain ⟨y, hy, rfl⟩ := List.mem_map.1 hx
  exact ⟨y, hy, h⟩
 ·rintro ⟨x, hx, h⟩
  exact ⟨near x, List.mem_map.2 ⟨x, hx, rfl⟩, h⟩
theorem IsOf.good {l s : List (Int × Int)} (h : IsOf l s) : Good s := ⟨h.1, fun x hx => by
 have hlt := h.1.1 x hx
 have a := (mem_map_near l x.1).1 ((h.2 x.1).1 ⟨x, hx, by omega, hlt⟩)
 have b := (mem_map_near l (x.2 - 1)).1 ((h.2 (x.2 - 1)).1 ⟨x, hx, by omega, by omega⟩)
 obtain ⟨y, _, hy⟩ := a
 obtain ⟨z, _, hz⟩ := b
 have := near_bd y
 have := near_bd z
 unfold In at hy hz
 omega⟩
theorem IsOf.mem {l s : List (Int × Int)} (h : IsOf l s) (n : Int) : mem s n ↔ ∃ x ∈ l, In (near x) n := (h.2 n).trans (mem_map_near l n)
def Small (l : List (Int × Int)) : Prop := ∀ x ∈ l, -1099511627776 <= x.1 ∧ x.1 <= 1099511627776 ∧ -1099511627776 <= x.2 ∧ x.2 <= 1099511627777
theorem IsOf.mem_small {l s : List (Int × Int)} (h : IsOf l s) (hl : Small l) (n : Int) : Sp.mem s n ↔ Sp.mem l n := by
 rw [h.mem]
 unfold Sp.mem In
 constructor
 ·rintro ⟨x, hx, e⟩
  rw [near_id x (hl x hx).1 (hl x hx).2.1 (hl x hx).2.2.1 (hl x hx).2.2.2] at e
  exact ⟨x, hx, e⟩
 ·rintro ⟨x, hx, e⟩
  refine ⟨x, hx, ?_⟩
  rwa [near_id x (hl x hx).1 (hl x hx).2.1 (hl x hx).2.2.1 (hl x hx).2.2.2]
theorem take_succ_getD (l : List (Int × Int)) (k : Nat) (hk : k < l.length) : l.take (k + 1) = l.take k ++ [l.getD k (0, 0)] := by
 rw [List.take_succ_eq_append_getElem hk]
 simp [List.getD, List.getElem?_eq_getElem hk]
theorem run_len (x : Int × Int) : (run x).length = (x.2 - x.1).toNat := by simp [run]
theorem run_succ (a j : Int) (h : a <= j) : run (a, j + 1) = run (a, j) ++ [j] := by
 unfold run
 simp only
 rw [show (j + 1 - a).toNat = (j - a).toNat + 1 by omega, List.range_succ, List.map_append]
 congr 1
 simp
 omega
theorem run_nil (a : Int) : run (a, a) = [] := by simp [run]
theorem nums_append (s t : List (Int × Int)) : nums (s ++ t) = nums s ++ nums t := by simp [nums]
theorem nums_one (x : Int × Int) : nums [x] = run x := by simp [nums]
theorem nums_succ (l : List (Int × Int)) (k : Nat) (hk : k < l.length) : nums (l.take (k + 1)) = nums (l.take k) ++ run (l.getD k (0, 0)) := by
 rw [take_succ_getD l k hk, nums_append, nums_one]
theorem nums_take_len (s : List (Int × Int)) (k : Nat) : (nums (s.take k)).length <= (nums s).length := by
 conv => rhs; rw [<- List.take_append_drop k s, nums_append]
 simp
end Go.Proofs.YtipaobpmojahaaaGreat.Sp
namespace Go.Proofs.YtipaobpmojahaaaGreat
open Go.RowKit

set_option maxRecDepth 4000 in
theorem list_any (A : Option Addr) (c : Nat) (l : List (Int × Int)) (w : World) (h : Rd spanE w A c l) (hg : Sp.Good l) (hl : (Sp.nums l).length <= 65536) :
  Calls Tryz.prog 259 #[.slice A l.length c] w fun e w' => ∃ B d, e = .returned (.slice B (Sp.nums l).length d) ∧ Mine intE w w' B d (Sp.nums l) := by
 have hlc := h.1
 have hcm := h.2.1
 unfold maxLen at hcm
 have H := lh h
 clear h
 go_enter Tryz.func259, Tryz.ntmps259
 go_wp2_with fail
 go_loopw [3, 9] (fun s3 i wr => ∃ (k : Nat) (B : Option Addr) (d : Nat) (N : List Int), k <= l.length ∧ i = .int .i64 k ∧ s3 = .slice B N.length d ∧ Hid (N = Sp.nums (l.take k)) ∧ Hid (Mine intE w wr B d N)) (fun _ i _ => l.length - (intOf i).toNat)
 case atStart => exact ⟨0, none, 0, [], by omega, rfl, rfl, rfl, Mine.nil _ _⟩
 case round =>
  obtain ⟨k, B, d, N, hkL, rfl, rfl, HN, HM⟩ := hrel
  by_cases hk : k < l.length
  ·have hk1 : (k : Int) < (l.length : Int) := by omega
   have hd1 : decide ((k : Int) < (l.length : Int)) = true := decide_eq_true hk1
   have hk0 : (0 : Int) <= (k : Int) := by omega
   obtain ⟨g, o, rfl, _, c0, c1⟩ := (HM.out.keepsR H.out).span_at k hk
   have HS := lh (Sp.nums_succ l k hk)
   have hlt := hg.1.1 (l.getD k (0, 0)) (by rw [List.getD_eq_getElem?_getD, List.getElem?_eq_getElem hk]; exact List.getElem_mem hk)
   have hbd := hg.2 (l.getD k (0, 0)) (by rw [List.getD_eq_getElem?_getD, List.getElem?_eq_getElem hk]; exact List.getElem_mem hk)
   have hle := Sp.nums_take_len l (k + 1)
   rw [HS.out, <- HN.out, List.length_append, Sp.run_len] at hle
   rw [<- HN.out] at HS
   generalize l.getD k (0, 0) = a at *
   obtain ⟨x, y⟩ := a
   simp only at c0 c1 HS hlt hbd hle
   have HM0 : Hid (Mine intE w (wr.alloc (.cells #[.int .i64 x, .int .i64 y] 261)) B d N) := HM.out.alloc _
   have HB0 : Hid (Blk (wr.alloc (.cells #[.int .i64 x, .int .i64 y] 261)) wr.heap.size 261 [.int .i64 x, .int .i64 y]) := Blk.new wr _ _
   clear HM HN
   go_wp2_with fail
   go_loopw [3, 6] (fun s3 n wx => ∃ (j : Int) (B : Option Addr) (d : Nat) (M : List Int), x <= j ∧ j <= y ∧ n = .int .i64 j ∧ s3 = .slice B M.length d ∧ Hid (M = N ++ Sp.run (x, j)) ∧ Hid (Mine intE w wx B d M) ∧ Hid (Blk wx wr.heap.size 261 [.int .i64 x, .int .i64 y])) (fun _ n _ => (y - intOf n).toNat)
   case atStart => exact ⟨x, B, d, N, by omega, by omega, rfl, rfl, by unfold Hid; rw [Sp.run_nil, List.append_nil], HM0, HB0⟩
   case round =>
    clear HM0 HB0 c0 c1
    obtain ⟨j, B, d, M, hxj, hjy, rfl, rfl, HMe, HM, HB⟩ := hrel
    have hMl : Hid (M.length = N.length + (j - x).toNat) := by unfold Hid; rw [HMe.out, List.length_append, Sp.run_len]
    have b0 := HB.out.cell 0
    have b1 := HB.out.cell 1
    simp only [List.getElem?_cons_succ, List.getElem?_cons_zero] at b0 b1
    by_cases hj : j < y
    ·have hlen : (M.length : Int) < 65536 := by have := hMl.out; omega
     have hlen2 : M.length + 1 <= 17592186044416 := by omega
     have hdj : decide (j < y) = true := decide_eq_true hj
     go_wp2_with (at_builtin; refine app_int rfl rfl (l := M) (l2 := [j]) rfl rfl (HM.out.sl.alloc _) (Sl.rd (Sl.lit intE _ _ rfl _ _ rfl _ rfl (by decide))) (by simp; omega) ?_; intro B4 d4 M4 w4 hM4 hs4 ht4 hB4)
     have HM5 := lh ((HM.out.alloc (.cells #[.int .i64 j] 3)).app hs4 ht4 hB4)
     have HB5 : Hid (Blk w4 _ 261 [.int .i64 x, .int .i64 y]) := ht4.blk (HB.out.alloc _) (fun e => by
      obtain ⟨ad, e1, e2⟩ := Option.map_eq_some_iff.1 e
      exact HM.out.sl.blk_ne HB.out (by decide) ad e1 e2)
     have HMe5 : Hid (M4 = N ++ Sp.run (x, j + 1)) := by unfold Hid; rw [hM4.out, HMe.out, Sp.run_succ x j hxj, List.append_assoc]
     clear hs4 ht4 hB4 hM4 HM HMe HB b0 b1
     go_roundw
     case rel => exact ⟨j + 1, B4, d4, M4, by omega, by omega, rfl, rfl, HMe5, HM5, HB5⟩
     case measure => simp [intOf]; omega
    ·have hjj : j = y := by omega
     have hdj : decide (j < y) = false := decide_eq_false hj
     have HN2 : Hid (M = Sp.nums (l.take (k + 1))) := by unfold Hid; rw [HS.out, HMe.out, hjj]
     have hkl : k + 1 <= l.length := hk
     clear hj hjj HMe HS hjy hMl HB
     go_wp2
     go_roundw
     case rel => exact ⟨k + 1, B, d, M, hkl, by go_num, rfl, HN2, HM⟩
     case measure => simp [intOf]; omega
  ·have hkk : k = l.length := by omega
   have HR : Hid (N = Sp.nums l) := by unfold Hid; rw [HN.out, hkk, List.take_length]
   have hk' : ¬ ((k : Int) < (l.length : Int)) := by omega
   clear hk HN hkk
   go_wp2
   go_ret
   exact ⟨B, d, by rw [<- HR.out]; rfl, HR.out ▸ HM.out⟩

namespace Sp
def flat (s : List (Int × Int)) : List Int := s.flatMap fun x => [x.1, x.2]
end Sp

namespace Gp
def gl (b : Int) (s : List (Int × Int)) : List Int := (Sp.flat s).map fun x => (b + x) % 16777216
end Gp

namespace Gp
def ats (b : Int) (l : List Int) : List Int := l.map fun x => (x - b) % 16777216
def up (E : Int) : Int -> List Int -> Bool
 |_, [] => true
 |last, a :: r => decide (last < a) && decide (a <= E) && up E a r
def prs : List Int -> List (Int × Int)
 |a :: b :: r => (a, b) :: prs r
 |_ => []
def lst (L : List Int) : Int := L.getLast?.getD (-1)
theorem lst_snoc (L : List Int) (a : Int) : lst (L ++ [a]) = a := by simp [lst]
theorem lst_cons2 (x y : Int) (r : List Int) (h : r ≠ []) : lst (x :: y :: r) = lst r := by
 cases r with
 |nil => exact absurd rfl h
 |cons z r => simp [lst, List.getLast?_cons_cons]
theorem prs_snoc : ∀ (L : List Int) (a : Int), prs (L ++ [a]) = if L.length % 2 = 1 then prs L ++ [(lst L, a)] else prs L
 |[], a => by simp [prs]
 |[y], a => by simp [prs, lst]
 |x :: y :: r, a => by
  have ih := prs_snoc r a
  show (x, y) :: prs (r ++ [a]) = _
  rw [ih]
  by_cases h : r.length % 2 = 1
  ·have hr : r ≠ [] := by rintro rfl; simp at h
   have h2 : (x :: y :: r).length % 2 = 1 := by simp only [List.length_cons]; omega
   rw [if_pos h, if_pos h2, lst_cons2 x y r hr]
   rfl
  ·have h2 : ¬ (x :: y :: r).length % 2 = 1 := by simp only [List.length_cons]; omega
   rw [if_neg h, if_neg h2]
   rfl
theorem up_append (E : Int) (L R : List Int) (last : Int) : up E last (L ++ R) = (up E last L && up E (L.getLast?.getD last) R) := by
 induction L generalizing last with
 |nil => simp [up]
 |cons a L ih =>
  show (decide (last < a) && decide (a <= E) && up E a (L ++ R)) = (decide (last < a) && decide (a <= E) && up E a L && _)
  rw [ih]
  have : (a :: L).getLast?.getD last = L.getLast?.getD a := by
   cases L with
   |nil => rfl
   |cons b L =>
    rw [List.getLast?_cons_cons]
    cases h : (b :: L).getLast? with
    |none => simp at h
    |some z => rfl
  rw [this]
  simp [Bool.and_assoc]
theorem up_snoc (E : Int) (L : List Int) (a : Int) : up E (-1) (L ++ [a]) = (up E (-1) L && decide (lst L < a) && decide (a <= E)) := by
 rw [up_append]
 unfold lst
 simp only [up, Bool.and_true, Bool.and_assoc]
theorem up_small (E : Int) (hE : E <= 8388608) : ∀ (L : List Int) (last : Int), -1 <= last -> up E last L = true -> Sp.Small (prs L) ∧ ∀ x ∈ prs L, last < x.1 ∧ x.1 < x.2 ∧ x.2 <= E
 |[], _, _, _ => ⟨by simp [prs, Sp.Small], by simp [prs]⟩
 |[_], _, _, _ => ⟨by simp [prs, Sp.Small], by simp [prs]⟩
 |a :: b :: r, last, h0, h => by
  simp only [up, Bool.and_eq_true, decide_eq_true_eq] at h
  obtain ⟨⟨h1, h2⟩, ⟨h3, h4⟩, h5⟩ := h
  obtain ⟨i1, i2⟩ := up_small E hE r b (by omega) h5
  refine ⟨fun x hx => ?_, fun x hx => ?_⟩
  ·rcases List.mem_cons.1 hx with rfl | hx
   ·simp only; omega
   ·exact i1 x hx
  ·rcases List.mem_cons.1 hx with rfl | hx
   ·simp only; omega
   ·have := i2 x hx; omega
theorem prs_len : ∀ (L : List Int), (prs L).length <= L.length
 |[] => by simp [prs]
 |[_] => by simp [prs]
 |_ :: _ :: r => by have := prs_len r; simp only [prs, List.length_cons]; omega
def okSet (b t : Int) (l : List Int) : Bool := decide (l.length % 2 = 0) && decide ((t - b) % 16777216 <= 8388608) && up ((t - b) % 16777216) (-1) (ats b l)
theorem ats_succ (b : Int) (l : List Int) (k : Nat) (hk : k < l.length) : ats b (l.take (k + 1)) = ats b (l.take k) ++ [(l.getD k 0 - b) % 16777216] := by
 unfold ats
 rw [List.take_succ_eq_append_getElem hk, List.map_append]
 simp [List.getD, List.getElem?_eq_getElem hk]
theorem ats_len (b : Int) (l : List Int) (k : Nat) (hk : k <= l.length) : (ats b (l.take k)).length = k := by
 unfold ats
 rw [List.length_map, List.length_take]
 omega
theorem ats_take (b : Int) (l : List Int) (k : Nat) : ∃ R, ats b l = ats b (l.take k) ++ R := ⟨ats b (l.drop k), by
 unfold ats
 rw [<- List.map_append, List.take_append_drop]⟩
end Gp

def SetPost (b t : Int) (l : List Int) (w : World) (e : Ending) (w' : World) : Prop :=
 (Gp.okSet b t l = true -> ∃ C g S, e = .returned (.tuple #[.slice C S.length g, .bool true]) ∧ Mine spanE w w' C g S ∧ Sp.IsOf (Gp.prs (Gp.ats b l)) S) ∧
 (Gp.okSet b t l = false -> e = .returned (.tuple #[.slice none 0 0, .bool false]) ∧ Fresh w w')

set_option maxRecDepth 4000 in
theorem gset_any (b t : Int) (A : Option Addr) (c : Nat) (l : List Int) (w : World) (h : Rd numE w A c l) (hl : l.length <= 1000000) :
  Calls Tryz.prog 256 #[.int .u32 b, .int .u32 t, .slice A l.length c] w (SetPost b t l w) := by
 have H := lh h
 clear h
 obtain ⟨E, hE⟩ := xq ((t - b) % 16777216)
 have hEb : 0 <= E ∧ E < 16777216 := by omega
 have HOK : Hid (Gp.okSet b t l = (decide (l.length % 2 = 0) && decide (E <= 8388608) && Gp.up E (-1) (Gp.ats b l))) := by unfold Hid Gp.okSet; rw [hE]
 have HE := lh hE
 clear hE
 go_enter Tryz.func256, Tryz.ntmps256
 go_wp2_with fail
 refine (to_any b t w).mono ?_
 rintro e w1 ⟨rfl, rfl⟩
 rw [<- HE.out]
 clear HE
 simp only
 by_cases hodd : l.length % 2 = 0
 ·have hm0 : (l.length : Int).tmod 2 = 0 := by rw [Int.tmod_eq_emod_of_nonneg (by omega)]; omega
  by_cases hE8 : E <= 8388608
  ·have hd8 : decide (8388608 < E) = false := decide_eq_false (by omega)
   go_wp2_with fail
   go_loopw [9, 10, 27] (fun s9 s10 i wr => ∃ (k : Nat) (C : Option Addr) (g : Nat) (M : List (Int × Int)) (z : Int), k <= l.length ∧ i = .int .i64 k ∧ s9 = .int .i64 z ∧ s10 = .slice C M.length g ∧ Hid (z = Gp.lst (Gp.ats b (l.take k))) ∧ Hid (M = Gp.prs (Gp.ats b (l.take k))) ∧ Hid (Gp.up E (-1) (Gp.ats b (l.take k)) = true) ∧ Hid (Mine spanE w1 wr C g M)) (fun _ _ i _ => l.length - (intOf i).toNat)
   case atStart => exact ⟨0, none, 0, [], -1, by omega, rfl, rfl, rfl, rfl, rfl, rfl, Mine.nil _ _⟩
   case round =>
    obtain ⟨k, C, g, M, z, hkl, rfl, rfl, rfl, HZ, HMe, HUp, HM⟩ := hrel
    by_cases hk : k < l.length
    ·have hk1 : (k : Int) < (l.length : Int) := by omega
     have hdk1 : decide ((k : Int) < (l.length : Int)) = true := decide_eq_true hk1
     have hk0 : (0 : Int) <= (k : Int) := by omega
     obtain ⟨ga, oa, rfl, _, c0⟩ := (HM.out.keepsR H.out).num_at k hk
     have HS := lh (Gp.ats_succ b l k hk)
     have HL := lh (Gp.ats_len b l k hkl)
     have HML : Hid (M.length <= k) := by unfold Hid; rw [HMe.out]; have := Gp.prs_len (Gp.ats b (l.take k)); rw [HL.out] at this; exact this
     have hMb : M.length + 1 <= 8796093022208 := by have := HML.out; omega
     generalize l.getD k 0 = x at *
     go_wp2_with fail
     refine (to_any b x wr).mono ?_
     rintro e w2 ⟨rfl, rfl⟩
     have hab : 0 <= (x - b) % 16777216 ∧ (x - b) % 16777216 < 16777216 := by omega
     generalize (x - b) % 16777216 = a at *
     have HU2 : Hid (Gp.up E (-1) (Gp.ats b (l.take (k + 1))) = (decide (z < a) && decide (a <= E))) := by
      unfold Hid
      rw [HS.out, Gp.up_snoc, HUp.out, <- HZ.out, Bool.true_and]
     simp only
     by_cases hza : z < a
     ·have hd1 : decide (a <= z) = false := decide_eq_false (by omega)
      by_cases haE : a <= E
      ·have hd2 : decide (E < a) = false := decide_eq_false (by omega)
       have HU3 : Hid (Gp.up E (-1) (Gp.ats b (l.take (k + 1))) = true) := by unfold Hid; rw [HU2.out, decide_eq_true hza, decide_eq_true haE]; rfl
       have HZ3 : Hid (a = Gp.lst (Gp.ats b (l.take (k + 1)))) := by unfold Hid; rw [HS.out, Gp.lst_snoc]
       by_cases hpar : k % 2 = 1
       ·have hm1 : (k : Int).tmod 2 = 1 := by rw [Int.tmod_eq_emod_of_nonneg (by omega)]; omega
        have HM3 : Hid (M ++ [(z, a)] = Gp.prs (Gp.ats b (l.take (k + 1)))) := by unfold Hid; rw [HS.out, Gp.prs_snoc, HL.out, if_pos hpar, <- HMe.out, <- HZ.out]
        have R3 : Hid (∀ W : World, Rd spanE (W.alloc (.cells #[.int .i64 z, .int .i64 a] 261)) (some ⟨W.heap.size, 0, none⟩) 1 [(z, a)]) := fun W => Sl.rd (Sl.lit spanE W _ rfl #[.int .i64 z, .int .i64 a] [(z, a)] rfl 1 rfl (by decide))
        clear HS HL HMe HZ HUp HU2 HML hpar
        go_wp2_with (at_builtin; refine app_span Tryz.underlying176 rfl rfl (l := M) (l2 := [(z, a)]) rfl rfl (HM.out.sl.alloc _) (R3.out _) (by simp; omega) ?_; intro C4 d4 M4 w4 hM4 hs4 ht4 hB4)
        have M5 := lh ((HM.out.alloc _).app hs4 ht4 hB4)
        rw [<- hM4.out] at HM3
        clear hs4 ht4 hB4 hM4 HM c0 R3
        go_roundw
        case rel => exact ⟨k + 1, C4, d4, M4, a, by omega, by go_num, rfl, rfl, HZ3, HM3, HU3, M5⟩
        case measure => simp [intOf]; omega
       ·have hm1 : (k : Int).tmod 2 = 0 := by rw [Int.tmod_eq_emod_of_nonneg (by omega)]; omega
        have HM3 : Hid (M = Gp.prs (Gp.ats b (l.take (k + 1)))) := by unfold Hid; rw [HS.out, Gp.prs_snoc, HL.out, if_neg hpar, <- HMe.out]
        clear HS HL HMe HZ HUp HU2 HML hpar c0
        go_wp2
        go_roundw
        case rel => exact ⟨k + 1, C, g, M, a, by omega, by go_num, rfl, rfl, HZ3, HM3, HU3, HM⟩
        case measure => simp [intOf]; omega
      ·have hd2 : decide (E < a) = true := decide_eq_true (by omega)
       have HF : Hid (Gp.okSet b t l = false) := by
        obtain ⟨R, hR⟩ := Gp.ats_take b l (k + 1)
        unfold Hid
        rw [HOK.out, hR, Gp.up_append, HU2.out, decide_eq_false haE]
        simp
       have HFr := lh HM.out.fresh
       clear HS HL HMe HZ HUp HU2 HML c0 HM
       go_wp2
       go_ret2
       exact ⟨fun h => absurd (HF.out.symm.trans h) (by decide), fun _ => ⟨rfl, HFr.out⟩⟩
     ·have hd1 : decide (a <= z) = true := decide_eq_true (by omega)
      have HF : Hid (Gp.okSet b t l = false) := by
       obtain ⟨R, hR⟩ := Gp.ats_take b l (k + 1)
       unfold Hid
       rw [HOK.out, hR, Gp.up_append, HU2.out, decide_eq_false hza]
       simp
      have HFr := lh HM.out.fresh
      clear HS HL HMe HZ HUp HU2 HML c0 HM
      go_wp2
      go_ret2
      exact ⟨fun h => absurd (HF.out.symm.trans h) (by decide), fun _ => ⟨rfl, HFr.out⟩⟩
    ·have hkk : k = l.length := by omega
     have hk' : ¬ ((k : Int) < (l.length : Int)) := by omega
     have HME : Hid (M = Gp.prs (Gp.ats b l)) := by unfold Hid; rw [HMe.out, hkk, List.take_length]
     have HT : Hid (Gp.okSet b t l = true) := by
      unfold Hid
      have hu := HUp.out
      rw [hkk, List.take_length] at hu
      rw [HOK.out, hu, decide_eq_true hodd, decide_eq_true hE8]
      rfl
     have hMb : M.length <= 1099511627776 := by
      rw [HME.out]
      have := Gp.prs_len (Gp.ats b l)
      unfold Gp.ats at this
      rw [List.length_map] at this
      exact Nat.le_trans this (by omega)
     clear hk HMe HZ HUp hkk
     go_wp2_with fail
     refine (of_any C g M wr HM.out.sl.rd hMb).mono ?_
     rintro e w9 ⟨B9, d9, S9, rfl, M9, hof, _⟩
     have MR := lh (M9.back HM.out.fresh)
     have HO : Hid (Sp.IsOf (Gp.prs (Gp.ats b l)) S9) := by unfold Hid; rw [<- HME.out]; exact hof
     clear M9 hof
     simp only
     go_wp2
     go_ret2
     exact ⟨fun _ => ⟨B9, d9, S9, rfl, MR.out, HO.out⟩, fun h => absurd (HT.out.symm.trans h) (by decide)⟩
  ·have hd8 : decide (8388608 < E) = true := decide_eq_true (by omega)
   have HF : Hid (Gp.okSet b t l = false) := by unfold Hid; rw [HOK.out, decide_eq_false hE8]; simp
   clear hE8
   go_wp2
   go_ret2
   exact ⟨fun h => absurd (HF.out.symm.trans h) (by decide), fun _ => ⟨rfl, Touch.refl _ _⟩⟩
 ·have hm0 : (l.length : Int).tmod 2 = 1 := by rw [Int.tmod_eq_emod_of_nonneg (by omega)]; omega
  have HF : Hid (Gp.okSet b t l = false) := by unfold Hid; rw [HOK.out, decide_eq_false hodd]; simp
  clear hodd
  go_wp2
  go_ret2
  exact ⟨fun h => absurd (HF.out.symm.trans h) (by decide), fun _ => ⟨rfl, Touch.refl _ _⟩⟩
end Go.Proofs.YtipaobpmojahaaaGreat

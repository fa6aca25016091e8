/-
  What a law's arguments read as, out of the row's own reading · A slice that stands in one cell of what came in · polliwoglaw15: ticks that may be; pace.New, pace.Clone · node: which configs may be, as the program says it and as the document says it. pace.Config.Check, pace.New at any ticks. No conditions · polliwogref15: set, Begin, Enough, New: by value.
-/
import Derived.Test.YtipaobpmojahaaaGreatEvD
import Derived.ProofKit
import Derived.OpenShut
import Derived.ShutString
import Derived.ChangeOld
import Derived.Deep.Slices
import Derived.Deep.Fields
import Derived.BigRegion
import Derived.Test.YtipaobpmojahaaaGreatRow2
import Derived.Deep.RegionHeld3
import Derived.Deep.DeepCutAuto
set_option maxHeartbeats 2000000
namespace Go.Proofs.YtipaobpmojahaaaGreat
open Go.ChangeShapes Go.WideShapes Go.ChangeAt Go.RowKit

theorem open_fields {H : Type} {enc : TypeId × Value -> H} {W : World} {base : Nat} {t : TypeId} {fs : Array Field} {n : Nat} {cs : List Value} {y : DataW H × List MemPlace}
  (hs : Tryz.prog.underlying t = some (.struct fs)) (hone : Go.Deep.oneCellFields Tryz.prog fs = true) (hC : Tryz.prog.cellsOf t = fs.size) (h : DataW.trod enc Tryz.prog W base (fun _ => true) true n t cs = some y) :
  cs.length = fs.size ∧ ∃ m, ∀ (i : Nat) (f : Field), fs[i]? = some f -> ∃ y, DataW.trod enc Tryz.prog W base (fun _ => true) true m f.type [cs.getD i undef] = some y := by
 obtain ⟨xs, m, _, _, hl, hx, hf⟩ := DataW.trod_struct hs h
 refine ⟨hl.trans hC, m, fun i f hi => ?_⟩
 have hlt : i < fs.size := (Array.getElem?_eq_some_iff.1 hi).1
 obtain ⟨o0, k0⟩ := Go.Deep.hone_of hone i f hi
 have h1 := hf i f hi
 rw [List.getElem?_eq_getElem (by omega), o0, k0, Go.Deep.take1_drop _ _ undef (by rw [hl, hC]; exact hlt)] at h1
 exact ⟨_, h1⟩

set_option maxRecDepth 10000 in
theorem open_rd {α : Type} (E : El α) {t : TypeId} (ht : Tryz.prog.underlying t = some (.slice E.e)) (hc : Tryz.prog.cellsOf E.e = E.size) {H : Type} {enc : TypeId × Value -> H} {W : World} {base : Nat} {v : Value} {d : DataW H} {p : List MemPlace}
  {Good : α -> Prop} (dec : ∀ n cs y, DataW.trod enc Tryz.prog W 0 (fun _ => true) true n E.e cs = some y -> ∃ a, cs = E.enc a ∧ Good a)
  (hv : Value.okWide Tryz.prog W .any base t v) (h : DataW.Trod enc Tryz.prog W 0 (fun _ => true) true t v d p) :
  ∃ A c l, v = .slice A l.length c ∧ Rd E W A c l ∧ ∀ a ∈ l, Good a := by
 obtain ⟨a0, len, cap, rfl⟩ := okWide_slice ht hv
 obtain ⟨fuel, hf⟩ := h
 rcases DataW.trod_slice ht hf with ⟨hcs, _⟩ | ⟨a, l, c, elems, rest, n, _, hcs, _, _, hl, hm, hlen, hel, _⟩
 ·simp [Value.cells] at hcs
  obtain ⟨rfl, rfl, rfl⟩ := hcs
  exact ⟨none, 0, [], rfl, Rd.nil _ _, by simp⟩
 ·simp [Value.cells] at hcs
  obtain ⟨rfl, rfl, rfl⟩ := hcs
  have hall : ∀ i, i < len -> ∃ b : α, (∀ f u, (E.enc b)[f]? = some u -> W.cell? (a.add (i * E.size + f)) = some u) ∧ Good b := by
   intro i hi
   have h1 := hel i hi
   rw [List.getElem?_eq_getElem (by omega)] at h1
   obtain ⟨cs, h2, h3⟩ := Option.bind_eq_some_iff.1 h1
   obtain ⟨b, rfl, hg⟩ := dec _ _ _ h3
   obtain ⟨_, h4, h5⟩ := World.cells?_some h2
   refine ⟨b, fun f u hu => ?_, hg⟩
   have hf : f < E.size := by rw [<- E.len b]; exact (List.getElem?_eq_some_iff.1 hu).1
   have h6 := h5 f (by rw [hc]; exact hf)
   rw [hc, Go.Deep.add_add] at h6
   rw [h6, hu]
  obtain ⟨L, hL, hp⟩ := exists_list hall
  refine ⟨some a, cap, L, by rw [hL], ⟨by rw [hL]; exact hl, hm, (fun h => by cases h), ?_⟩, ?_⟩
  ·intro ad ha j u hu
   injection ha with ha
   subst ha
   obtain ⟨i, f, hi, rfl, _, hu⟩ := E.all_get L j u hu
   exact (hp i hi).1 f u hu
  ·intro b hb
   obtain ⟨i, hi, rfl⟩ := List.mem_iff_getElem.1 hb
   exact (hp i hi).2
open Go.ChangeShapes Go.WideShapes Go.ChangeAt Go.RowKit

set_option maxRecDepth 10000 in
theorem open_rd_cell {α : Type} (E : El α) {t : TypeId} (ht : Tryz.prog.underlying t = some (.slice E.e)) (hc : Tryz.prog.cellsOf E.e = E.size) {H : Type} {enc : TypeId × Value -> H} {W : World} {u : Value} {k : Nat} {y : DataW H × List MemPlace}
  {Good : α -> Prop} (dec : ∀ n cs y, DataW.trod enc Tryz.prog W 0 (fun _ => true) true n E.e cs = some y -> ∃ a, cs = E.enc a ∧ Good a)
  (h : DataW.trod enc Tryz.prog W 0 (fun _ => true) true k t [u] = some y) :
  ∃ A c l, u = .slice A l.length c ∧ Rd E W A c l ∧ ∀ a ∈ l, Good a := by
 rcases DataW.trod_slice ht h with ⟨hcs, _⟩ | ⟨a, l, c, elems, rest, n, _, hcs, _, _, hl, hm, hlen, hel, _⟩
 ·injection hcs with hcs
  subst hcs
  exact ⟨none, 0, [], rfl, Rd.nil _ _, by simp⟩
 ·injection hcs with hcs
  subst hcs
  have hall : ∀ i, i < l -> ∃ b : α, (∀ f u, (E.enc b)[f]? = some u -> W.cell? (a.add (i * E.size + f)) = some u) ∧ Good b := by
   intro i hi
   have h1 := hel i hi
   rw [List.getElem?_eq_getElem (by omega)] at h1
   obtain ⟨cs, h2, h3⟩ := Option.bind_eq_some_iff.1 h1
   obtain ⟨b, rfl, hg⟩ := dec _ _ _ h3
   obtain ⟨_, h4, h5⟩ := World.cells?_some h2
   refine ⟨b, fun f u hu => ?_, hg⟩
   have hf : f < E.size := by rw [<- E.len b]; exact (List.getElem?_eq_some_iff.1 hu).1
   have h6 := h5 f (by rw [hc]; exact hf)
   rw [hc, Go.Deep.add_add] at h6
   rw [h6, hu]
  obtain ⟨L, hL, hp⟩ := exists_list hall
  refine ⟨some a, c, L, by rw [hL], ⟨by rw [hL]; exact hl, hm, (fun h => by cases h), ?_⟩, ?_⟩
  ·intro ad ha j u hu
   injection ha with ha
   subst ha
   obtain ⟨i, f, hi, rfl, _, hu⟩ := E.all_get L j u hu
   exact (hp i hi).1 f u hu
  ·intro b hb
   obtain ⟨i, hi, rfl⟩ := List.mem_iff_getElem.1 hb
   exact (hp i hi).2
open Go.RowKit
set_option maxRecDepth 20000

def GoodC (c0 c1 c2 c3 c4 : Int) : Prop := (1 <= c0 ∧ c0 <= 41) ∧ (1 <= c1 ∧ c1 <= 41) ∧ (1 <= c2 ∧ c2 <= 41) ∧ (1 <= c3 ∧ c3 <= 41) ∧ (1 <= c4 ∧ c4 <= 41) ∧ c1 < c3 ∧ c2 < c3

theorem Sl.int_set {w : World} {g c : Nat} {X : List Int} (h : Sl intE w (some ⟨g, 0, none⟩) c X) (k : Nat) (x : Int) : Sl intE (w.setCell ⟨g, k, none⟩ (.int .i64 x)) (some ⟨g, 0, none⟩) c (X.set k x) := by
 have := h.set1 (by rfl) (g := g) (o := 0) rfl (i := k) (x := x) (u := .int .i64 x) rfl
 rw [Nat.zero_add] at this
 exact this
theorem Sl.int_at0 {w : World} {g c : Nat} {X : List Int} (h : Sl intE w (some ⟨g, 0, none⟩) c X) (k : Nat) (hk : k < X.length) : w.cell? ⟨g, k, none⟩ = some (.int .i64 (X.getD k 0)) := by
 obtain ⟨g', o', e, _, hc⟩ := h.int_at k hk
 injection e with e
 injection e with e1 e2
 subst e1 e2
 rw [Nat.zero_add] at hc
 exact hc

def RightPost (w : World) (e : Ending) (w' : World) : Prop := ∃ g c0 c1 c2 c3 c4, e = .returned (.slice (some ⟨g, 0, none⟩) 5 5) ∧ Sl intE w' (some ⟨g, 0, none⟩) 5 [c0, c1, c2, c3, c4] ∧ GoodC c0 c1 c2 c3 c4 ∧ Fresh w w' ∧ w.heap.size <= g

theorem right_any (A : Option Addr) (c : Nat) (L : List Int) (w : World) (h : Rd intE w A c L) :
  Calls Tryz.prog 27 #[.slice A L.length c] w (RightPost w) := by
 have hlc := h.1
 have hcm := h.2.1
 unfold maxLen at hcm
 have H := lh h
 clear h
 have HI : Hid (Sl intE (w.alloc (.cells #[.int .i64 3, .int .i64 2, .int .i64 5, .int .i64 9, .int .i64 4] 3)) (some ⟨w.heap.size, 0, none⟩) 5 [3, 2, 5, 9, 4]) := Sl.lit intE w _ rfl _ _ rfl _ rfl (by decide)
 go_enter Tryz.func27, Tryz.ntmps27
 go_wp2_with fail
 have hgw : w.heap.size <= w.heap.size := Nat.le_refl _
 have HF : Hid (Fresh w (w.alloc (.cells #[.int .i64 3, .int .i64 2, .int .i64 5, .int .i64 9, .int .i64 4] 3))) := (Touch.refl _ w).alloc _
 generalize w.alloc (.cells #[.int .i64 3, .int .i64 2, .int .i64 5, .int .i64 9, .int .i64 4] 3) = w1 at *
 have hg0 : ∃ g, g = w.heap.size := ⟨_, rfl⟩
 obtain ⟨g, hg⟩ := hg0
 rw [<- hg] at HI hgw ⊢
 have HG := lh hg
 clear hg
 go_loopw [4] (fun i wr => ∃ (k : Nat) (X : List Int), k <= 5 ∧ k <= L.length ∧ i = .int .i64 k ∧ X.length = 5 ∧ Hid (∀ x ∈ X, 1 <= x ∧ x <= 40) ∧ Hid (Sl intE wr (some ⟨g, 0, none⟩) 5 X) ∧ Hid (Fresh w wr)) (fun i _ => 5 - (intOf i).toNat)
 case atStart => exact ⟨0, _, by omega, by omega, rfl, rfl, by simp [Hid], HI, HF⟩
 case round =>
  obtain ⟨k, X, hk5, hkL, rfl, hX, hXb, hs, ht⟩ := hrel
  have HX := lh hX
  by_cases hkl : k < L.length ∧ k < 5
  ·have hk1 : (k : Int) < (L.length : Int) := by omega
   have hk2 : (k : Int) < 5 := by omega
   obtain ⟨gA, oA, rfl, hgA, hc⟩ := (H.out.touch ht.out (fun _ _ _ h => h)).int_at k hkl.1
   have hf := hs.out.frozen g 0 rfl k
   have hc2 := hs.out.int_at0 k (by omega)
   have hd1 : decide ((k : Int) < (L.length : Int)) = true := decide_eq_true hk1
   have hd2 : decide ((k : Int) < 5) = true := decide_eq_true hk2
   have HS : Hid (∀ x, 1 <= x -> x <= 40 -> Sl intE (wr.setCell ⟨g, k, none⟩ (.int .i64 x)) (some ⟨g, 0, none⟩) 5 (X.set k x) ∧ (∀ y ∈ X.set k x, 1 <= y ∧ y <= 40) ∧ Fresh w (wr.setCell ⟨g, k, none⟩ (.int .i64 x))) := fun x h0 h1 =>
    ⟨hs.out.int_set k x, fun y hy => by rcases List.mem_or_eq_of_mem_set hy with hy | rfl; exact hXb.out y hy; exact ⟨h0, h1⟩, ht.out.setCell (fun hl => by have := HG.out; simp at hl; omega) _⟩
   generalize L.getD k 0 = v at *
   generalize X.getD k 0 = v2 at *
   clear hX hs ht hXb
   go_wp2
   all_goals
    go_roundw
    case rel => exact ⟨k + 1, X.set k _, by omega, by omega, by go_num, by rw [List.length_set]; exact HX.out, (HS.out _ (by omega) (by omega)).2.1, (HS.out _ (by omega) (by omega)).1, (HS.out _ (by omega) (by omega)).2.2⟩
    case measure => simp [intOf]; omega
  ·match X, HX with
   |[x0, x1, x2, x3, x4], HX =>
   have b0 := hXb.out x0 (by simp)
   have b1 := hXb.out x1 (by simp)
   have b2 := hXb.out x2 (by simp)
   have b3 := hXb.out x3 (by simp)
   have b4 := hXb.out x4 (by simp)
   have k1 : wr.cell? ⟨g, 1, none⟩ = some (.int .i64 x1) := hs.out.int_at0 1 (by simp)
   have k2 : wr.cell? ⟨g, 2, none⟩ = some (.int .i64 x2) := hs.out.int_at0 2 (by simp)
   have k3 : wr.cell? ⟨g, 3, none⟩ = some (.int .i64 x3) := hs.out.int_at0 3 (by simp)
   have hf : wr.frozen? ⟨g, 3, none⟩ = false := hs.out.frozen g 0 rfl 3
   have s1 : IntKind.i64.wrap (x1 + 1) = x1 + 1 := IntWalk.i64_in _ (by omega)
   have s2 : IntKind.i64.wrap (x2 + 1) = x2 + 1 := IntWalk.i64_in _ (by omega)
   have HS : Hid (∀ x nq, Sl intE ((wr.setCell ⟨g, 3, none⟩ (.int .i64 x)).drewN nq) (some ⟨g, 0, none⟩) 5 [x0, x1, x2, x, x4] ∧ Fresh w ((wr.setCell ⟨g, 3, none⟩ (.int .i64 x)).drewN nq)) := fun x nq =>
    ⟨hs.out.int_set 3 x, (ht.out.setCell (fun hl => by have := HG.out; simp at hl; omega) _).drewN _⟩
   clear hX hXb hs ht
   have hmax : (x3 < x1 + 1 ∧ x1 + 1 < x2 + 1) ∨ (x3 < x1 + 1 ∧ ¬ (x1 + 1 < x2 + 1)) ∨ (¬ (x3 < x1 + 1) ∧ x3 < x2 + 1) ∨ (¬ (x3 < x1 + 1) ∧ ¬ (x3 < x2 + 1)) := by omega
   rcases (show ¬ ((k : Int) < (L.length : Int)) ∨ ((k : Int) < (L.length : Int) ∧ ¬ ((k : Int) < 5)) by omega) with hk1 | ⟨hk1, hk2⟩
   all_goals
    rcases hmax with ⟨m1, m2⟩ | ⟨m1, m2⟩ | ⟨m1, m2⟩ | ⟨m1, m2⟩
    all_goals
     go_wp2
     go_still_tail 14, (by kernel_rfl)
     go_wp2
     go_ret
     exact ⟨g, x0, x1, x2, _, x4, rfl, (HS.out _ 1).1, ⟨by omega, by omega, by omega, by omega, by omega, by omega, by omega⟩, (HS.out _ 1).2, by rw [HG.out]; exact Nat.le_refl _⟩
set_option maxRecDepth 20000

namespace Nd
def inb (x m : Int) : Bool := decide (1 <= x) && decide (x <= m)
theorem inb_true {x m : Int} (h : inb x m = true) : 1 <= x ∧ x <= m := by
 unfold inb at h
 rw [Bool.and_eq_true, decide_eq_true_eq, decide_eq_true_eq] at h
 exact h
theorem inb_false {x m : Int} (h : ¬ inb x m = true) : x < 1 ∨ (¬ x < 1 ∧ m < x) := by
 unfold inb at h
 rw [Bool.and_eq_true, decide_eq_true_eq, decide_eq_true_eq] at h
 omega
def okP (a b c d e : Int) : Bool := inb a 1048576 && inb b 1048576 && inb c 1048576 && inb d 1048576 && inb e 1048576 && decide (b < d) && decide (c < d)
theorem okP_at {a b c d e : Int} (h : okP a b c d e = true) : inb a 1048576 = true ∧ inb b 1048576 = true ∧ inb c 1048576 = true ∧ inb d 1048576 = true ∧ inb e 1048576 = true ∧ b < d ∧ c < d := by
 unfold okP at h
 simp only [Bool.and_eq_true, decide_eq_true_eq] at h
 obtain ⟨⟨⟨⟨⟨⟨h1, h2⟩, h3⟩, h4⟩, h5⟩, h6⟩, h7⟩ := h
 exact ⟨h1, h2, h3, h4, h5, h6, h7⟩
theorem okP_of {a b c d e : Int} (h1 : inb a 1048576 = true) (h2 : inb b 1048576 = true) (h3 : inb c 1048576 = true) (h4 : inb d 1048576 = true) (h5 : inb e 1048576 = true) : okP a b c d e = (decide (b < d) && decide (c < d)) := by
 unfold okP
 rw [h1, h2, h3, h4, h5]
 simp
theorem okP_no {a b c d e : Int} {k : Nat} (hk : k < 5) (h : ¬ inb ([a, b, c, d, e].getD k 0) 1048576 = true) : okP a b c d e = false := by
 refine Bool.eq_false_iff.2 fun hc => ?_
 obtain ⟨h1, h2, h3, h4, h5, _⟩ := okP_at hc
 rcases (show k = 0 ∨ k = 1 ∨ k = 2 ∨ k = 3 ∨ k = 4 by omega) with rfl | rfl | rfl | rfl | rfl
 ·exact h h1
 ·exact h h2
 ·exact h h3
 ·exact h h4
 ·exact h h5
end Nd

theorem pcheck_any (c0 c1 c2 c3 c4 : Int) (w : World) :
  Calls Tryz.prog 156 #[.agg #[.int .i64 c0, .int .i64 c1, .int .i64 c2, .int .i64 c3, .int .i64 c4]] w fun e w' => e = .returned (.int .i64 (if Nd.okP c0 c1 c2 c3 c4 then 0 else 1)) ∧ Fresh w w' := by
 obtain ⟨r, hr⟩ : ∃ r : Int, (if Nd.okP c0 c1 c2 c3 c4 then 0 else 1) = r := ⟨_, rfl⟩
 have HR := lh hr
 rw [hr]
 clear hr
 have i0 : ∀ w, (Instr.index 70 (.agg #[.int .i64 c0, .int .i64 c1, .int .i64 c2, .int .i64 c3, .int .i64 c4]) (.int .i64 0)).run Tryz.prog w = .ok (.int .i64 c0) w := fun _ => by kernel_rfl
 have i1 : ∀ w, (Instr.index 70 (.agg #[.int .i64 c0, .int .i64 c1, .int .i64 c2, .int .i64 c3, .int .i64 c4]) (.int .i64 1)).run Tryz.prog w = .ok (.int .i64 c1) w := fun _ => by kernel_rfl
 have i2 : ∀ w, (Instr.index 70 (.agg #[.int .i64 c0, .int .i64 c1, .int .i64 c2, .int .i64 c3, .int .i64 c4]) (.int .i64 2)).run Tryz.prog w = .ok (.int .i64 c2) w := fun _ => by kernel_rfl
 have i3 : ∀ w, (Instr.index 70 (.agg #[.int .i64 c0, .int .i64 c1, .int .i64 c2, .int .i64 c3, .int .i64 c4]) (.int .i64 3)).run Tryz.prog w = .ok (.int .i64 c3) w := fun _ => by kernel_rfl
 have i4 : ∀ w, (Instr.index 70 (.agg #[.int .i64 c0, .int .i64 c1, .int .i64 c2, .int .i64 c3, .int .i64 c4]) (.int .i64 4)).run Tryz.prog w = .ok (.int .i64 c4) w := fun _ => by kernel_rfl
 go_enter Tryz.func156, Tryz.ntmps156
 go_wp2
 go_loopw [16] (fun i wr => ∃ k : Nat, k <= 5 ∧ i = .int .i64 k ∧ Hid (∀ j, j < k -> Nd.inb ([c0, c1, c2, c3, c4].getD j 0) 1048576 = true) ∧ Hid (Fresh w wr) ∧ Hid (Blk wr w.heap.size 86 [.int .i64 c0, .int .i64 c1, .int .i64 c2, .int .i64 c3, .int .i64 c4])) (fun i _ => 5 - (intOf i).toNat)
 case atStart => exact ⟨0, by omega, rfl, fun j h => absurd h (Nat.not_lt_zero j), (Touch.refl _ w).alloc _, Blk.new w _ _⟩
 case round =>
  obtain ⟨k, hk, rfl, HG, ht, hb⟩ := hrel
  rcases (show k = 0 ∨ k = 1 ∨ k = 2 ∨ k = 3 ∨ k = 4 ∨ k = 5 by omega) with rfl | rfl | rfl | rfl | rfl | rfl
  ·by_cases hi : Nd.inb c0 1048576 = true
   ·have HG2 : Hid (∀ j, j < 0 + 1 -> Nd.inb ([c0, c1, c2, c3, c4].getD j 0) 1048576 = true) := fun j hj => by
     rcases Nat.lt_succ_iff_lt_or_eq.1 hj with h | rfl
     ·exact HG.out j h
     ·exact hi
    obtain ⟨hi1, hi2⟩ := Nd.inb_true hi
    have n1 : ¬ c0 < 1 := by omega
    have n2 : ¬ 1048576 < c0 := by omega
    have HI := lh hi
    clear hi HG hi1 hi2
    go_wp2
    go_roundw
    case rel => exact ⟨0 + 1, by omega, rfl, HG2, ht, hb⟩
    case measure => simp [intOf]
   ·have hr0 : r = 1 := by rw [<- HR.out, Nd.okP_no (k := 0) (by omega) hi]; rfl
    rcases Nd.inb_false hi with n1 | ⟨n1, n2⟩
    ·clear hi HG
     go_wp2
     go_ret
     exact ⟨by first | rfl | (rw [hr0]; rfl), ht.out⟩
    ·clear hi HG
     go_wp2
     go_ret
     exact ⟨by first | rfl | (rw [hr0]; rfl), ht.out⟩
  ·by_cases hi : Nd.inb c1 1048576 = true
   ·have HG2 : Hid (∀ j, j < 1 + 1 -> Nd.inb ([c0, c1, c2, c3, c4].getD j 0) 1048576 = true) := fun j hj => by
     rcases Nat.lt_succ_iff_lt_or_eq.1 hj with h | rfl
     ·exact HG.out j h
     ·exact hi
    obtain ⟨hi1, hi2⟩ := Nd.inb_true hi
    have n1 : ¬ c1 < 1 := by omega
    have n2 : ¬ 1048576 < c1 := by omega
    have HI := lh hi
    clear hi HG hi1 hi2
    go_wp2
    go_roundw
    case rel => exact ⟨1 + 1, by omega, rfl, HG2, ht, hb⟩
    case measure => simp [intOf]
   ·have hr0 : r = 1 := by rw [<- HR.out, Nd.okP_no (k := 1) (by omega) hi]; rfl
    rcases Nd.inb_false hi with n1 | ⟨n1, n2⟩
    ·clear hi HG
     go_wp2
     go_ret
     exact ⟨by first | rfl | (rw [hr0]; rfl), ht.out⟩
    ·clear hi HG
     go_wp2
     go_ret
     exact ⟨by first | rfl | (rw [hr0]; rfl), ht.out⟩
  ·by_cases hi : Nd.inb c2 1048576 = true
   ·have HG2 : Hid (∀ j, j < 2 + 1 -> Nd.inb ([c0, c1, c2, c3, c4].getD j 0) 1048576 = true) := fun j hj => by
     rcases Nat.lt_succ_iff_lt_or_eq.1 hj with h | rfl
     ·exact HG.out j h
     ·exact hi
    obtain ⟨hi1, hi2⟩ := Nd.inb_true hi
    have n1 : ¬ c2 < 1 := by omega
    have n2 : ¬ 1048576 < c2 := by omega
    have HI := lh hi
    clear hi HG hi1 hi2
    go_wp2
    go_roundw
    case rel => exact ⟨2 + 1, by omega, rfl, HG2, ht, hb⟩
    case measure => simp [intOf]
   ·have hr0 : r = 1 := by rw [<- HR.out, Nd.okP_no (k := 2) (by omega) hi]; rfl
    rcases Nd.inb_false hi with n1 | ⟨n1, n2⟩
    ·clear hi HG
     go_wp2
     go_ret
     exact ⟨by first | rfl | (rw [hr0]; rfl), ht.out⟩
    ·clear hi HG
     go_wp2
     go_ret
     exact ⟨by first | rfl | (rw [hr0]; rfl), ht.out⟩
  ·by_cases hi : Nd.inb c3 1048576 = true
   ·have HG2 : Hid (∀ j, j < 3 + 1 -> Nd.inb ([c0, c1, c2, c3, c4].getD j 0) 1048576 = true) := fun j hj => by
     rcases Nat.lt_succ_iff_lt_or_eq.1 hj with h | rfl
     ·exact HG.out j h
     ·exact hi
    obtain ⟨hi1, hi2⟩ := Nd.inb_true hi
    have n1 : ¬ c3 < 1 := by omega
    have n2 : ¬ 1048576 < c3 := by omega
    have HI := lh hi
    clear hi HG hi1 hi2
    go_wp2
    go_roundw
    case rel => exact ⟨3 + 1, by omega, rfl, HG2, ht, hb⟩
    case measure => simp [intOf]
   ·have hr0 : r = 1 := by rw [<- HR.out, Nd.okP_no (k := 3) (by omega) hi]; rfl
    rcases Nd.inb_false hi with n1 | ⟨n1, n2⟩
    ·clear hi HG
     go_wp2
     go_ret
     exact ⟨by first | rfl | (rw [hr0]; rfl), ht.out⟩
    ·clear hi HG
     go_wp2
     go_ret
     exact ⟨by first | rfl | (rw [hr0]; rfl), ht.out⟩
  ·by_cases hi : Nd.inb c4 1048576 = true
   ·have HG2 : Hid (∀ j, j < 4 + 1 -> Nd.inb ([c0, c1, c2, c3, c4].getD j 0) 1048576 = true) := fun j hj => by
     rcases Nat.lt_succ_iff_lt_or_eq.1 hj with h | rfl
     ·exact HG.out j h
     ·exact hi
    obtain ⟨hi1, hi2⟩ := Nd.inb_true hi
    have n1 : ¬ c4 < 1 := by omega
    have n2 : ¬ 1048576 < c4 := by omega
    have HI := lh hi
    clear hi HG hi1 hi2
    go_wp2
    go_roundw
    case rel => exact ⟨4 + 1, by omega, rfl, HG2, ht, hb⟩
    case measure => simp [intOf]
   ·have hr0 : r = 1 := by rw [<- HR.out, Nd.okP_no (k := 4) (by omega) hi]; rfl
    rcases Nd.inb_false hi with n1 | ⟨n1, n2⟩
    ·clear hi HG
     go_wp2
     go_ret
     exact ⟨by first | rfl | (rw [hr0]; rfl), ht.out⟩
    ·clear hi HG
     go_wp2
     go_ret
     exact ⟨by first | rfl | (rw [hr0]; rfl), ht.out⟩
  ·have hP : Nd.okP c0 c1 c2 c3 c4 = (decide (c1 < c3) && decide (c2 < c3)) := Nd.okP_of (HG.out 0 (by omega)) (HG.out 1 (by omega)) (HG.out 2 (by omega)) (HG.out 3 (by omega)) (HG.out 4 (by omega))
   have k1 : wr.cell? ⟨w.heap.size, 1, none⟩ = some (.int .i64 c1) := hb.out.cell 1
   have k2 : wr.cell? ⟨w.heap.size, 2, none⟩ = some (.int .i64 c2) := hb.out.cell 2
   have k3 : wr.cell? ⟨w.heap.size, 3, none⟩ = some (.int .i64 c3) := hb.out.cell 3
   by_cases h1 : c1 < c3
   ·by_cases h2 : c2 < c3
    ·have hr0 : r = 0 := by rw [<- HR.out, hP, decide_eq_true h1, decide_eq_true h2]; rfl
     have m1 : ¬ c3 <= c1 := by omega
     have m2 : ¬ c3 <= c2 := by omega
     clear HG hP
     go_wp2
     go_ret
     exact ⟨by first | rfl | (rw [hr0]; rfl), ht.out⟩
    ·have hr0 : r = 1 := by rw [<- HR.out, hP, decide_eq_false h2, Bool.and_false]; rfl
     have m1 : ¬ c3 <= c1 := by omega
     have m2 : c3 <= c2 := by omega
     clear HG hP
     go_wp2
     go_ret
     exact ⟨by first | rfl | (rw [hr0]; rfl), ht.out⟩
   ·have hr0 : r = 1 := by rw [<- HR.out, hP, decide_eq_false h1]; rfl
    have m1 : c3 <= c1 := by omega
    clear HG hP
    go_wp2
    go_ret
    exact ⟨by first | rfl | (rw [hr0]; rfl), ht.out⟩

theorem pnew_ok (c0 c1 c2 c3 c4 : Int) (w : World) (h : Nd.okP c0 c1 c2 c3 c4 = true) :
  Calls Tryz.prog 69 #[.agg #[.int .i64 c0, .int .i64 c1, .int .i64 c2, .int .i64 c3, .int .i64 c4]] w fun e w' => ∃ g, e = .returned (.tuple #[.pointer (some ⟨g, 0, none⟩), .int .i64 0]) ∧ Pk w' g [0, 0, 0, 0, 0] c0 c1 c2 c3 c4 ∧ Fresh w w' ∧ w.heap.size <= g := by
 have HC := lh (fun W => pcheck_any c0 c1 c2 c3 c4 W)
 rw [h] at HC
 go_enter Tryz.func69, Tryz.ntmps69
 go_wp2_with fail
 refine (HC.out _).mono ?_
 rintro e w1 ⟨rfl, t1⟩
 have B1 := t1.blk (Blk.new w 86 [.int .i64 c0, .int .i64 c1, .int .i64 c2, .int .i64 c3, .int .i64 c4]) (fun h => h)
 have k0 : w1.cell? ⟨w.heap.size, 0, none⟩ = some (.int .i64 c0) := B1.cell 0
 have k1 : w1.cell? ⟨w.heap.size, 1, none⟩ = some (.int .i64 c1) := B1.cell 1
 have k2 : w1.cell? ⟨w.heap.size, 2, none⟩ = some (.int .i64 c2) := B1.cell 2
 have k3 : w1.cell? ⟨w.heap.size, 3, none⟩ = some (.int .i64 c3) := B1.cell 3
 have k4 : w1.cell? ⟨w.heap.size, 4, none⟩ = some (.int .i64 c4) := B1.cell 4
 have T1 := lh (((Touch.refl _ w).alloc _).trans t1 (fun _ _ h => h))
 have hs := T1.out.size
 clear t1 B1
 go_wp2
 go_ret2
 exact ⟨_, rfl, ⟨rfl, by simp, Blk.new _ _ [.int .i64 0, .int .i64 0, .int .i64 0, .int .i64 0, .int .i64 0, .int .i64 c0, .int .i64 c1, .int .i64 c2, .int .i64 c3, .int .i64 c4]⟩, T1.out.alloc _, hs⟩

namespace Rf
def offs (l : List Int) (off : List Nat) : List Int := off.foldl (fun l t => l.set t 0) l
def ons (c l : List Int) (on : List Nat) : List Int := on.foldl (fun l t => l.set t (c.getD t 0)) l
theorem offs_take (l : List Int) (off : List Nat) (k : Nat) (hk : k < off.length) : offs l (off.take (k + 1)) = (offs l (off.take k)).set (off.getD k 0) 0 := by
 unfold offs
 rw [List.take_succ_eq_append_getElem hk, List.foldl_append]
 simp [List.getD, List.getElem?_eq_getElem hk]
theorem ons_take (c l : List Int) (on : List Nat) (k : Nat) (hk : k < on.length) : ons c l (on.take (k + 1)) = (ons c l (on.take k)).set (on.getD k 0) (c.getD (on.getD k 0) 0) := by
 unfold ons
 rw [List.take_succ_eq_append_getElem hk, List.foldl_append]
 simp [List.getD, List.getElem?_eq_getElem hk]
theorem offs_len (l : List Int) (off : List Nat) : (offs l off).length = l.length := by
 unfold offs
 induction off generalizing l with
 |nil => rfl
 |cons t off ih => rw [List.foldl_cons, ih, List.length_set]
theorem ons_len (c l : List Int) (on : List Nat) : (ons c l on).length = l.length := by
 unfold ons
 induction on generalizing l with
 |nil => rfl
 |cons t on ih => rw [List.foldl_cons, ih, List.length_set]
end Rf

theorem Sl.int_setg {w : World} {g o c : Nat} {X : List Int} (h : Sl intE w (some ⟨g, o, none⟩) c X) (k : Nat) (x : Int) : Sl intE (w.setCell ⟨g, o + k, none⟩ (.int .i64 x)) (some ⟨g, o, none⟩) c (X.set k x) :=
 h.set1 (by rfl) (g := g) (o := o) rfl (i := k) (x := x) (u := .int .i64 x) rfl
theorem Sl.int_atg {w : World} {g o c : Nat} {X : List Int} (h : Sl intE w (some ⟨g, o, none⟩) c X) (k : Nat) (hk : k < X.length) : w.cell? ⟨g, o + k, none⟩ = some (.int .i64 (X.getD k 0)) := by
 obtain ⟨g', o', e, _, hc⟩ := h.int_at k hk
 injection e with e
 injection e with e1 e2
 subst e1 e2
 exact hc
theorem Sl.some5 {w : World} {A : Option Addr} {c : Nat} {X : List Int} (h : Sl intE w A c X) (h0 : 0 < X.length) : ∃ g o, A = some ⟨g, o, none⟩ := by
 obtain ⟨g, o, e, _⟩ := h.int_at 0 h0
 exact ⟨g, o, e⟩

def PPost (Tk : Option Addr) (ck : Nat) (l : List Int) (w : World) (e : Ending) (w' : World) : Prop :=
 ∃ A c, e = .returned (.agg #[.slice Tk 5 ck, .slice A 5 c]) ∧ Sl intE w' A c l ∧ Fresh w w'

theorem set15_any (Tk Lf Aon Aoff : Option Addr) (ck cl con coff : Nat) (c l : List Int) (on off : List Nat) (w : World) (hc5 : c.length = 5) (hl5 : l.length = 5) (hck : Sl intE w Tk ck c) (hcl : Sl intE w Lf cl l)
  (hon : Sl intE w Aon con (on.map fun t : Nat => (t : Int))) (hoff : Sl intE w Aoff coff (off.map fun t : Nat => (t : Int))) (ho5 : ∀ t ∈ on, t < 5) (hf5 : ∀ t ∈ off, t < 5) (hnl : on.length <= 5) (hfl : off.length <= 5) :
  Calls Tryz.prog 188 #[.agg #[.slice Tk 5 ck, .slice Lf 5 cl], .slice Aon on.length con, .slice Aoff off.length coff] w (PPost Tk ck (Rf.ons c (Rf.offs l off) on) w) := by
 match l, hl5 with
 |[l0, l1, l2, l3, l4], _ =>
 match c, hc5 with
 |[c0, c1, c2, c3, c4], _ =>
 have HCk := lh hck
 have HCl := lh hcl
 have HOn := lh hon
 have HOff := lh hoff
 have HO5 := lh ho5
 have HF5 := lh hf5
 have hwf : ∀ ad, Tk = some ad -> ad.block < w.heap.size := hck.lt
 have HWF := lh hwf
 obtain ⟨gt, ot, rfl⟩ := hck.some5 (by simp)
 clear hck hcl hon hoff ho5 hf5 hwf
 have hbase : Hid (∃ gb, gb = w.heap.size) := ⟨_, rfl⟩
 go_enter Tryz.func188, Tryz.ntmps188
 go_wp2_with (at_builtin; refine app_int rfl rfl (l := []) (l2 := [l0, l1, l2, l3, l4]) rfl rfl (Sl.lit intE _ _ (by simp) #[] [] rfl 0 rfl (by decide)) ((((HCl.out.alloc _).alloc _).alloc _).rd) (by simp) ?_; intro A1 c1' L1 w1 hL1 hs1 ht1 hA1)
 have hl1 : L1 = [l0, l1, l2, l3, l4] := hL1.out
 subst hl1
 have B1 := ht1.blk ((((Blk.new w 31 [.slice (some ⟨gt, ot, none⟩) 5 ck, .slice Lf 5 cl]).alloc (.cells #[.slice none 0 0, .slice none 0 0] 31)).alloc (.cells #[] 3))) (fun e => by simp at e; omega)
 have R0 : Blk ((w.alloc (.cells #[.slice (some ⟨gt, ot, none⟩) 5 ck, .slice Lf 5 cl] 31)).alloc (.cells #[.slice none 0 0, .slice none 0 0] 31)) (w.heap.size + 1) 31 [.slice none 0 0, .slice none 0 0] := by
  have := Blk.new (w.alloc (.cells #[.slice (some ⟨gt, ot, none⟩) 5 ck, .slice Lf 5 cl] 31)) 31 [.slice none 0 0, .slice none 0 0]
  rw [show (w.alloc (.cells #[.slice (some ⟨gt, ot, none⟩) 5 ck, .slice Lf 5 cl] 31)).heap.size = w.heap.size + 1 by simp] at this
  exact this
 have R1 := ht1.blk (R0.alloc (.cells #[] 3)) (fun e => by simp at e)
 have F1 : Fresh w w1 := ((((Touch.refl _ w).alloc _).alloc _).alloc _).trans ht1 (fun k hk e => by simp at e; omega)
 obtain ⟨g, o, rfl⟩ := hs1.some5 (by simp)
 have hg : w.heap.size + 1 < g := by rcases hA1 with e | e <;> (simp at e; omega)
 have HB := lh B1
 have HRR := lh R1
 have HF := lh F1
 have HS := lh hs1
 clear B1 R0 R1 F1 hs1 ht1 hA1 hL1 HCl hbase
 obtain ⟨gb, hgb⟩ := xq w.heap.size
 rw [<- hgb] at HB HRR hg ⊢
 have HGB := lh hgb
 clear hgb
 go_wp2_with fail
 have hl0 : ([l0, l1, l2, l3, l4] : List Int).length = 5 := rfl
 generalize [l0, l1, l2, l3, l4] = l at *
 have HL0 := lh hl0
 clear hl0
 go_loopw [18] (fun i wr => ∃ k : Nat, k <= off.length ∧ i = .int .i64 k ∧ Hid (Sl intE wr (some ⟨g, o, none⟩) c1' (Rf.offs l (off.take k))) ∧ Hid (Blk wr gb 31 [.slice (some ⟨gt, ot, none⟩) 5 ck, .slice Lf 5 cl]) ∧ Hid (Blk wr (gb + 1) 31 [.slice none 0 0, .slice none 0 0]) ∧ Hid (Fresh w wr)) (fun i _ => off.length - (intOf i).toNat)
 case atStart => exact ⟨0, by omega, rfl, HS, HB, HRR, HF⟩
 case round =>
  clear HS HB HRR HF
  obtain ⟨k, hk, rfl, HS, HB, HRR, HF⟩ := hrel
  by_cases hkl : k < off.length
  ·have hk1 : (k : Int) < (off.length : Int) := by omega
   obtain ⟨gf, of_, rfl, _, hcf⟩ := (HOff.out.touch HF.out (fun _ _ h => h)).int_at k (by simpa using hkl)
   have htk := Rf.offs_take l off k hkl
   have ht5 : off.getD k 0 < 5 := by
    have : off.getD k 0 = off[k] := by simp [List.getD, List.getElem?_eq_getElem hkl]
    rw [this]; exact HF5.out _ (List.getElem_mem hkl)
   have hcf' : wr.cell? ⟨gf, of_ + k, none⟩ = some (.int .i64 ((off.getD k 0 : Nat) : Int)) := by
    rw [hcf]
    simp [List.getD, List.getElem?_eq_getElem hkl]
   generalize off.getD k 0 = t at *
   have hlen : (Rf.offs l (off.take k)).length = 5 := by rw [Rf.offs_len]; exact HL0.out
   have hcl := HS.out.int_atg t (by omega)
   have hfz := HS.out.frozen g o rfl (o + t)
   have HS' : Hid (Sl intE (wr.setCell ⟨g, o + t, none⟩ (.int .i64 0)) (some ⟨g, o, none⟩) c1' (Rf.offs l (off.take (k + 1)))) := by rw [htk]; exact HS.out.int_setg t 0
   have HB' := lh (HB.out.far (p := ⟨g, o + t, none⟩) (by simp only; omega) (.int .i64 0))
   have HR' := lh (HRR.out.far (p := ⟨g, o + t, none⟩) (by simp only; omega) (.int .i64 0))
   have HF' : Hid (Fresh w (wr.setCell ⟨g, o + t, none⟩ (.int .i64 0))) := HF.out.setCell (fun h => by have := HGB.out; simp at h; omega) _
   have ht5' : (t : Int) < 5 := by omega
   have ht0' : (0 : Int) <= (t : Int) := by omega
   generalize (Rf.offs l (off.take k)).getD t 0 = v0 at *
   clear htk hcf HS HB HRR HF hlen
   go_wp2
   go_roundw
   case rel => exact ⟨k + 1, by omega, by go_num, HS', HB', HR', HF'⟩
   case measure => simp [intOf]; omega
  ·have e : k = off.length := by omega
   subst e
   rw [List.take_length] at HS
   have hlo : (Rf.offs l off).length = 5 := by rw [Rf.offs_len]; exact HL0.out
   have HLO := lh hlo
   have hc5 : ([c0, c1, c2, c3, c4] : List Int).length = 5 := rfl
   have HC5 := lh hc5
   obtain ⟨lo, hlo2⟩ := xq (Rf.offs l off)
   rw [<- hlo2] at HS HLO
   have HLO2 := lh hlo2
   obtain ⟨cs, hcs⟩ : ∃ cs : List Int, cs = [c0, c1, c2, c3, c4] := ⟨_, rfl⟩
   rw [<- hcs] at HCk HC5
   have HCS := lh hcs
   clear hlo hlo2 hc5 hcs
   go_wp2_with fail
   go_loopw [28] (fun i wr => ∃ k : Nat, k <= on.length ∧ i = .int .i64 k ∧ Hid (Sl intE wr (some ⟨g, o, none⟩) c1' (Rf.ons cs lo (on.take k))) ∧ Hid (Blk wr gb 31 [.slice (some ⟨gt, ot, none⟩) 5 ck, .slice Lf 5 cl]) ∧ Hid (Blk wr (gb + 1) 31 [.slice none 0 0, .slice none 0 0]) ∧ Hid (Fresh w wr)) (fun i _ => on.length - (intOf i).toNat)
   case atStart => exact ⟨0, by omega, rfl, HS, HB, HRR, HF⟩
   case round =>
    clear HS HB HRR HF
    obtain ⟨k, hk, rfl, HS, HB, HRR, HF⟩ := hrel
    by_cases hkl : k < on.length
    ·have hk1 : (k : Int) < (on.length : Int) := by omega
     obtain ⟨gf, of_, rfl, _, hcf⟩ := (HOn.out.touch HF.out (fun _ _ h => h)).int_at k (by simpa using hkl)
     have htk := Rf.ons_take cs lo on k hkl
     have ht5 : on.getD k 0 < 5 := by
      have : on.getD k 0 = on[k] := by simp [List.getD, List.getElem?_eq_getElem hkl]
      rw [this]; exact HO5.out _ (List.getElem_mem hkl)
     have hcf' : wr.cell? ⟨gf, of_ + k, none⟩ = some (.int .i64 ((on.getD k 0 : Nat) : Int)) := by
      rw [hcf]
      simp [List.getD, List.getElem?_eq_getElem hkl]
     generalize on.getD k 0 = t at *
     have hlen : (Rf.ons cs lo (on.take k)).length = 5 := by rw [Rf.ons_len]; exact HLO.out
     have hcl := HS.out.int_atg t (by omega)
     have hct := (HCk.out.touch HF.out (fun _ _ h => h)).int_atg t (by rw [HC5.out]; omega)
     have hcb : wr.cell? ⟨gb, 0, none⟩ = some (.slice (some ⟨gt, ot, none⟩) 5 ck) := HB.out.cell 0
     have hfz := HS.out.frozen g o rfl (o + t)
     generalize cs.getD t 0 = v1 at *
     have HS' : Hid (Sl intE (wr.setCell ⟨g, o + t, none⟩ (.int .i64 v1)) (some ⟨g, o, none⟩) c1' (Rf.ons cs lo (on.take (k + 1)))) := by rw [htk]; exact HS.out.int_setg t v1
     have HB' := lh (HB.out.far (p := ⟨g, o + t, none⟩) (by simp only; omega) (.int .i64 v1))
     have HR' := lh (HRR.out.far (p := ⟨g, o + t, none⟩) (by simp only; omega) (.int .i64 v1))
     have HF' : Hid (Fresh w (wr.setCell ⟨g, o + t, none⟩ (.int .i64 v1))) := HF.out.setCell (fun h => by have := HGB.out; simp at h; omega) _
     have ht5' : (t : Int) < 5 := by omega
     have ht0' : (0 : Int) <= (t : Int) := by omega
     generalize (Rf.ons cs lo (on.take k)).getD t 0 = v0 at *
     clear htk hcf HS HB HRR HF hlen
     go_wp2
     go_roundw
     case rel => exact ⟨k + 1, by omega, by go_num, HS', HB', HR', HF'⟩
     case measure => simp [intOf]; omega
    ·have e : k = on.length := by omega
     subst e
     rw [List.take_length] at HS
     have hcb : wr.cell? ⟨gb, 0, none⟩ = some (.slice (some ⟨gt, ot, none⟩) 5 ck) := HB.out.cell 0
     have hr0 : wr.cell? ⟨gb + 1, 0, none⟩ = some (.slice none 0 0) := HRR.out.cell 0
     have hr1 : wr.cell? ⟨gb + 1, 1, none⟩ = some (.slice none 0 0) := HRR.out.cell 1
     have hf0 := HRR.out.frozen 0
     have hf1 := HRR.out.frozen 1
     have HBf := lh ((HRR.out.set 0 (.slice (some ⟨gt, ot, none⟩) 5 ck)).set 1 (.slice (some ⟨g, o, none⟩) 5 c1'))
     have HSf : Hid (Sl intE ((wr.setCell ⟨gb + 1, 0, none⟩ (.slice (some ⟨gt, ot, none⟩) 5 ck)).setCell ⟨gb + 1, 1, none⟩ (.slice (some ⟨g, o, none⟩) 5 c1')) (some ⟨g, o, none⟩) c1' (Rf.ons cs lo on)) :=
      (HS.out.setCell (fun ad ha => by injection ha with ha; subst ha; simp only; omega) _).setCell (fun ad ha => by injection ha with ha; subst ha; simp only; omega) _
     have HFf : Hid (Fresh w ((wr.setCell ⟨gb + 1, 0, none⟩ (.slice (some ⟨gt, ot, none⟩) 5 ck)).setCell ⟨gb + 1, 1, none⟩ (.slice (some ⟨g, o, none⟩) 5 c1'))) :=
      (HF.out.setCell (fun h => by have := HGB.out; simp at h; omega) _).setCell (fun h => by have := HGB.out; simp at h; omega) _
     clear HS HB HF HRR
     go_wp2
     generalize ((wr.setCell ⟨gb + 1, 0, none⟩ (.slice (some ⟨gt, ot, none⟩) 5 ck)).setCell ⟨gb + 1, 1, none⟩ (.slice (some ⟨g, o, none⟩) 5 c1')) = wf at *
     have e0 : wf.cell? ⟨gb + 1, 0, none⟩ = some (.slice (some ⟨gt, ot, none⟩) 5 ck) := HBf.out.cell 0
     have e1 : wf.cell? ⟨gb + 1, 1, none⟩ = some (.slice (some ⟨g, o, none⟩) 5 c1') := HBf.out.cell 1
     exact bodyPost_ret (v := .agg #[.slice (some ⟨gt, ot, none⟩) 5 ck, .slice (some ⟨g, o, none⟩) 5 c1']) (by simp [results, Tryz.results188, go_sem, e0, e1]) rfl ⟨some ⟨g, o, none⟩, c1', rfl, by rw [<- HCS.out, <- HLO2.out]; exact HSf.out, HFf.out⟩
theorem R_at (w : World) (o1 : Obj) : Blk ((w.alloc o1).alloc (.cells #[.slice none 0 0, .slice none 0 0] 31)) (w.heap.size + 1) 31 [.slice none 0 0, .slice none 0 0] := by
 have := Blk.new (w.alloc o1) 31 [.slice none 0 0, .slice none 0 0]
 rw [show (w.alloc o1).heap.size = w.heap.size + 1 by simp] at this
 exact this
section
variable (Tk Lf : Option Addr) (ck cl : Nat) (c l : List Int) (w : World)

theorem ref_begin (hc5 : c.length = 5) (hl5 : l.length = 5) (hck : Sl intE w Tk ck c) (hcl : Sl intE w Lf cl l) :
  Calls Tryz.prog 199 #[.agg #[.slice Tk 5 ck, .slice Lf 5 cl]] w (PPost Tk ck (Rf.ons c (Rf.offs l [2, 4]) [1, 3]) w) := by
 have HCk := lh hck
 have HCl := lh hcl
 have HC5 := lh hc5
 have HL5 := lh hl5
 clear hck hcl hc5 hl5
 go_enter Tryz.func199, Tryz.ntmps199
 go_wp2_with fail
 refine (set15_any Tk Lf _ _ ck cl _ _ c l [1, 3] [2, 4] _ HC5.out HL5.out ((((HCk.out.alloc _).alloc _).alloc _).alloc _) ((((HCl.out.alloc _).alloc _).alloc _).alloc _) ((Sl.lit intE _ _ (by simp) _ _ rfl _ rfl (by decide)).alloc _) (Sl.lit intE _ _ (by simp) _ _ rfl _ rfl (by decide)) (by simp) (by simp) (by simp) (by simp)).mono ?_
 rintro e w1 ⟨A, c', rfl, s1, t1⟩
 have HRR := lh (t1.blk ((((R_at w _)).alloc _).alloc _) (fun h => h))
 have HF := lh ((((((Touch.refl _ w).alloc _).alloc _).alloc _).alloc _ : Fresh w _).trans t1 (fun _ _ h => h))
 have HS := lh s1
 clear s1 t1
 obtain ⟨gb, hgb⟩ := xq w.heap.size
 rw [<- hgb] at HRR ⊢
 have HGB := lh hgb
 have hgw : gb + 1 < w1.heap.size := HRR.out.lt
 clear hgb
 have hr0 : w1.cell? ⟨gb + 1, 0, none⟩ = some (.slice none 0 0) := HRR.out.cell 0
 have hr1 : w1.cell? ⟨gb + 1, 1, none⟩ = some (.slice none 0 0) := HRR.out.cell 1
 have hf0 := HRR.out.frozen 0
 have hf1 := HRR.out.frozen 1
 have HBf := lh ((HRR.out.set 0 (.slice Tk 5 ck)).set 1 (.slice A 5 c'))
 have hne : ∀ ad, A = some ad -> ad.block ≠ gb + 1 := HS.out.blk_ne HRR.out (by decide)
 have HSf := lh ((HS.out.setCell (p := ⟨gb + 1, 0, none⟩) hne (.slice Tk 5 ck)).setCell (p := ⟨gb + 1, 1, none⟩) hne (.slice A 5 c'))
 have HFf : Hid (Fresh w ((w1.setCell ⟨gb + 1, 0, none⟩ (.slice Tk 5 ck)).setCell ⟨gb + 1, 1, none⟩ (.slice A 5 c'))) :=
  (HF.out.setCell (fun h => by have := HGB.out; simp at h; omega) _).setCell (fun h => by have := HGB.out; simp at h; omega) _
 clear HS HF HRR hne
 go_wp2
 generalize ((w1.setCell ⟨gb + 1, 0, none⟩ (.slice Tk 5 ck)).setCell ⟨gb + 1, 1, none⟩ (.slice A 5 c')) = wf at *
 have e0 : wf.cell? ⟨gb + 1, 0, none⟩ = some (.slice Tk 5 ck) := HBf.out.cell 0
 have e1 : wf.cell? ⟨gb + 1, 1, none⟩ = some (.slice A 5 c') := HBf.out.cell 1
 exact bodyPost_ret (v := .agg #[.slice Tk 5 ck, .slice A 5 c']) (by simp [results, Tryz.results199, go_sem, e0, e1]) rfl ⟨A, c', rfl, HSf.out, HFf.out⟩

theorem ref_enough (hc5 : c.length = 5) (hl5 : l.length = 5) (hck : Sl intE w Tk ck c) (hcl : Sl intE w Lf cl l) :
  Calls Tryz.prog 194 #[.agg #[.slice Tk 5 ck, .slice Lf 5 cl]] w (PPost Tk ck (Rf.ons c (Rf.offs l [0]) []) w) := by
 have HCk := lh hck
 have HCl := lh hcl
 have HC5 := lh hc5
 have HL5 := lh hl5
 clear hck hcl hc5 hl5
 go_enter Tryz.func194, Tryz.ntmps194
 go_wp2_with fail
 refine (set15_any Tk Lf _ _ ck cl _ _ c l [] [0] _ HC5.out HL5.out (((HCk.out.alloc _).alloc _).alloc _) (((HCl.out.alloc _).alloc _).alloc _) (Sl.nil _ _) (Sl.lit intE _ _ (by simp) _ _ rfl _ rfl (by decide)) (by simp) (by simp) (by simp) (by simp)).mono ?_
 rintro e w1 ⟨A, c', rfl, s1, t1⟩
 have HRR := lh (t1.blk (((R_at w _)).alloc _) (fun h => h))
 have HF := lh (((((Touch.refl _ w).alloc _).alloc _).alloc _ : Fresh w _).trans t1 (fun _ _ h => h))
 have HS := lh s1
 clear s1 t1
 obtain ⟨gb, hgb⟩ := xq w.heap.size
 rw [<- hgb] at HRR ⊢
 have HGB := lh hgb
 have hgw : gb + 1 < w1.heap.size := HRR.out.lt
 clear hgb
 have hr0 : w1.cell? ⟨gb + 1, 0, none⟩ = some (.slice none 0 0) := HRR.out.cell 0
 have hr1 : w1.cell? ⟨gb + 1, 1, none⟩ = some (.slice none 0 0) := HRR.out.cell 1
 have hf0 := HRR.out.frozen 0
 have hf1 := HRR.out.frozen 1
 have HBf := lh ((HRR.out.set 0 (.slice Tk 5 ck)).set 1 (.slice A 5 c'))
 have hne : ∀ ad, A = some ad -> ad.block ≠ gb + 1 := HS.out.blk_ne HRR.out (by decide)
 have HSf := lh ((HS.out.setCell (p := ⟨gb + 1, 0, none⟩) hne (.slice Tk 5 ck)).setCell (p := ⟨gb + 1, 1, none⟩) hne (.slice A 5 c'))
 have HFf : Hid (Fresh w ((w1.setCell ⟨gb + 1, 0, none⟩ (.slice Tk 5 ck)).setCell ⟨gb + 1, 1, none⟩ (.slice A 5 c'))) :=
  (HF.out.setCell (fun h => by have := HGB.out; simp at h; omega) _).setCell (fun h => by have := HGB.out; simp at h; omega) _
 clear HS HF HRR hne
 go_wp2
 generalize ((w1.setCell ⟨gb + 1, 0, none⟩ (.slice Tk 5 ck)).setCell ⟨gb + 1, 1, none⟩ (.slice A 5 c')) = wf at *
 have e0 : wf.cell? ⟨gb + 1, 0, none⟩ = some (.slice Tk 5 ck) := HBf.out.cell 0
 have e1 : wf.cell? ⟨gb + 1, 1, none⟩ = some (.slice A 5 c') := HBf.out.cell 1
 exact bodyPost_ret (v := .agg #[.slice Tk 5 ck, .slice A 5 c']) (by simp [results, Tryz.results194, go_sem, e0, e1]) rfl ⟨A, c', rfl, HSf.out, HFf.out⟩
end
end Go.Proofs.YtipaobpmojahaaaGreat

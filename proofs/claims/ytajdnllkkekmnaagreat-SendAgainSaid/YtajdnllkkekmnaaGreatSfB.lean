/-
  polliwogref11: the sender in a box of the call's own; Open, Put, has.
-/
import Derived.Test.YtajdnllkkekmnaaGreatSf
import Derived.Deep.RegionHeld3
import Derived.IntWalk
import Derived.Deep.RegionLaw
namespace Go.Proofs.YtajdnllkkekmnaaGreat
open Go.RowKit

def sfZero : List Value := [.int .i64 0, .int .i64 0, .int .i64 0, .int .i64 0, .int .i64 0, .int .i64 0, .int .i64 0, .int .i64 0, .slice none 0 0, .slice none 0 0, .slice none 0 0, .slice none 0 0]
theorem Touch.st12 {S : Nat → Prop} {w w' : World} (h : Touch S w w') {g : Nat} (hs : S g) {u0 u1 u2 u3 u4 u5 u6 u7 u8 u9 ua ub : Value} :
    Touch S w ((((((((((((w'.setCell ⟨g, 0, none⟩ u0).setCell ⟨g, 1, none⟩ u1).setCell ⟨g, 2, none⟩ u2).setCell ⟨g, 3, none⟩ u3).setCell ⟨g, 4, none⟩ u4).setCell ⟨g, 5, none⟩ u5).setCell ⟨g, 6, none⟩ u6).setCell ⟨g, 7, none⟩ u7).setCell ⟨g, 8, none⟩ u8).setCell ⟨g, 9, none⟩ u9).setCell ⟨g, 10, none⟩ ua).setCell ⟨g, 11, none⟩ ub) :=
  (((((((((((h.st hs).st hs).st hs).st hs).st hs).st hs).st hs).st hs).st hs).st hs).st hs).st hs
theorem Blk.set12 {w : World} {b : Nat} {t : TypeId} {a0 a1 a2 a3 a4 a5 a6 a7 a8 a9 aa ab : Value} (h : Blk w b t [a0, a1, a2, a3, a4, a5, a6, a7, a8, a9, aa, ab]) (u0 u1 u2 u3 u4 u5 u6 u7 u8 u9 ua ub : Value) :
    Blk ((((((((((((w.setCell ⟨b, 0, none⟩ u0).setCell ⟨b, 1, none⟩ u1).setCell ⟨b, 2, none⟩ u2).setCell ⟨b, 3, none⟩ u3).setCell ⟨b, 4, none⟩ u4).setCell ⟨b, 5, none⟩ u5).setCell ⟨b, 6, none⟩ u6).setCell ⟨b, 7, none⟩ u7).setCell ⟨b, 8, none⟩ u8).setCell ⟨b, 9, none⟩ u9).setCell ⟨b, 10, none⟩ ua).setCell ⟨b, 11, none⟩ ub) b t [u0, u1, u2, u3, u4, u5, u6, u7, u8, u9, ua, ub] :=
  (((((((((((h.set 0 u0).set 1 u1).set 2 u2).set 3 u3).set 4 u4).set 5 u5).set 6 u6).set 7 u7).set 8 u8).set 9 u9).set 10 ua).set 11 ub

/-- The sender in a box of the call's own, behind it the place of the result. -/
structure SfBox (w wr : World) (D : Nat → Prop) (P : SfP) (x : Sf.S) : Prop where
  blk : Blk wr w.heap.size 33 (sfCells x P)
  res : Blk wr (w.heap.size + 1) 33 sfZero
  ins : SfIn wr P x
  dom : SfD P fun k => D k ∨ w.heap.size ≤ k
  fresh : Fresh w wr
section
variable {w wr wr' : World} {D : Nat → Prop} {P P' : SfP} {x x' : Sf.S}
theorem SfBox.new (h : SfIn w P x) (hd : SfD P D) : SfBox w ((w.alloc (.cells (sfCells x P).toArray 33)).alloc (.cells sfZero.toArray 33)) D P x := by
  refine ⟨(Blk.new _ _ (sfCells x P)).alloc _, ?_, h.old (((Touch.refl _ w).alloc _).alloc _), hd.mono (fun _ h => .inl h), ((Touch.refl _ w).alloc _).alloc _⟩
  have hb := Blk.new (w.alloc (.cells (sfCells x P).toArray 33)) 33 sfZero
  rw [show ∀ o, (w.alloc o).heap.size = w.heap.size + 1 from fun o => by simp] at hb
  exact hb
theorem SfBox.old (h : SfBox w wr D P x) (ht : Fresh wr wr') : SfBox w wr' D P x :=
  ⟨ht.blk h.blk (fun h => h), ht.blk h.res (fun h => h), h.ins.old ht, h.dom, h.fresh.trans ht (fun _ _ h => h)⟩
/-- Other parts, a cell that is stored. -/
theorem SfBox.put (h : SfBox w wr D P x) (i : Nat) (u : Value) (hc : (sfCells x P).set i u = sfCells x' P') (hi : SfIn wr P' x') (hd : SfD P' fun k => D k ∨ w.heap.size ≤ k) : SfBox w (wr.setCell ⟨w.heap.size, i, none⟩ u) D P' x' := by
  have ht := Touch.set1 wr w.heap.size i u
  exact ⟨hc ▸ h.blk.set i u, h.res.far (by simp) _, hi.far h.blk ht, hd, h.fresh.setCell (fun h => by simp at h) _⟩
/-- A store of a number. -/
theorem SfBox.scalar (h : SfBox w wr D P x) (i : Nat) (u : Value) (hc : (sfCells x P).set i u = sfCells x' P) (h1 : x'.wait = x.wait) (h2 : x'.kept = x.kept) (h3 : x'.last = x.last) (h4 : x'.again = x.again) : SfBox w (wr.setCell ⟨w.heap.size, i, none⟩ u) D P x' :=
  h.put i u hc ⟨h1 ▸ h.ins.wait, h2 ▸ h.ins.kept, h3 ▸ h.ins.last, h4 ▸ h.ins.again⟩ h.dom
set_option maxHeartbeats 1000000 in
/-- The whole is stored anew, its parts the same. -/
theorem SfBox.all (h : SfBox w wr D P x) (h1 : x'.wait = x.wait) (h2 : x'.kept = x.kept) (h3 : x'.last = x.last) (h4 : x'.again = x.again) : SfBox w ((((((((((((wr.setCell ⟨w.heap.size, 0, none⟩ (.int .i64 x'.s)).setCell ⟨w.heap.size, 1, none⟩ (.int .i64 x'.a)).setCell ⟨w.heap.size, 2, none⟩ (.int .i64 x'.ms)).setCell ⟨w.heap.size, 3, none⟩ (.int .i64 x'.ps)).setCell ⟨w.heap.size, 4, none⟩ (.int .i64 x'.pa)).setCell ⟨w.heap.size, 5, none⟩ (.int .i64 x'.units)).setCell ⟨w.heap.size, 6, none⟩ (.int .i64 x'.polls)).setCell ⟨w.heap.size, 7, none⟩ (.int .i64 (x'.most : Int))).setCell ⟨w.heap.size, 8, none⟩ (.slice P.W x'.wait.length P.cw)).setCell ⟨w.heap.size, 9, none⟩ (.slice P.K x'.kept.length P.ck)).setCell ⟨w.heap.size, 10, none⟩ (.slice P.L x'.last.length P.cl)).setCell ⟨w.heap.size, 11, none⟩ (.slice P.G x'.again.length P.cg)) D P x' := by
  have ht : Touch (· = w.heap.size) wr ((((((((((((wr.setCell ⟨w.heap.size, 0, none⟩ (.int .i64 x'.s)).setCell ⟨w.heap.size, 1, none⟩ (.int .i64 x'.a)).setCell ⟨w.heap.size, 2, none⟩ (.int .i64 x'.ms)).setCell ⟨w.heap.size, 3, none⟩ (.int .i64 x'.ps)).setCell ⟨w.heap.size, 4, none⟩ (.int .i64 x'.pa)).setCell ⟨w.heap.size, 5, none⟩ (.int .i64 x'.units)).setCell ⟨w.heap.size, 6, none⟩ (.int .i64 x'.polls)).setCell ⟨w.heap.size, 7, none⟩ (.int .i64 (x'.most : Int))).setCell ⟨w.heap.size, 8, none⟩ (.slice P.W x'.wait.length P.cw)).setCell ⟨w.heap.size, 9, none⟩ (.slice P.K x'.kept.length P.ck)).setCell ⟨w.heap.size, 10, none⟩ (.slice P.L x'.last.length P.cl)).setCell ⟨w.heap.size, 11, none⟩ (.slice P.G x'.again.length P.cg)) := Touch.st12 (S := (· = w.heap.size)) (Touch.refl _ wr) rfl
  have hi := h.ins.far h.blk ht
  have hb : Blk ((((((((((((wr.setCell ⟨w.heap.size, 0, none⟩ (.int .i64 x'.s)).setCell ⟨w.heap.size, 1, none⟩ (.int .i64 x'.a)).setCell ⟨w.heap.size, 2, none⟩ (.int .i64 x'.ms)).setCell ⟨w.heap.size, 3, none⟩ (.int .i64 x'.ps)).setCell ⟨w.heap.size, 4, none⟩ (.int .i64 x'.pa)).setCell ⟨w.heap.size, 5, none⟩ (.int .i64 x'.units)).setCell ⟨w.heap.size, 6, none⟩ (.int .i64 x'.polls)).setCell ⟨w.heap.size, 7, none⟩ (.int .i64 (x'.most : Int))).setCell ⟨w.heap.size, 8, none⟩ (.slice P.W x'.wait.length P.cw)).setCell ⟨w.heap.size, 9, none⟩ (.slice P.K x'.kept.length P.ck)).setCell ⟨w.heap.size, 10, none⟩ (.slice P.L x'.last.length P.cl)).setCell ⟨w.heap.size, 11, none⟩ (.slice P.G x'.again.length P.cg)) w.heap.size 33 (sfCells x' P) := Blk.set12 h.blk _ _ _ _ _ _ _ _ _ _ _ _
  have hn : ¬ (fun k => k = w.heap.size) (w.heap.size + 1) := fun e => by simp at e
  have hr := ht.blk h.res hn
  have hf : Fresh w ((((((((((((wr.setCell ⟨w.heap.size, 0, none⟩ (.int .i64 x'.s)).setCell ⟨w.heap.size, 1, none⟩ (.int .i64 x'.a)).setCell ⟨w.heap.size, 2, none⟩ (.int .i64 x'.ms)).setCell ⟨w.heap.size, 3, none⟩ (.int .i64 x'.ps)).setCell ⟨w.heap.size, 4, none⟩ (.int .i64 x'.pa)).setCell ⟨w.heap.size, 5, none⟩ (.int .i64 x'.units)).setCell ⟨w.heap.size, 6, none⟩ (.int .i64 x'.polls)).setCell ⟨w.heap.size, 7, none⟩ (.int .i64 (x'.most : Int))).setCell ⟨w.heap.size, 8, none⟩ (.slice P.W x'.wait.length P.cw)).setCell ⟨w.heap.size, 9, none⟩ (.slice P.K x'.kept.length P.ck)).setCell ⟨w.heap.size, 10, none⟩ (.slice P.L x'.last.length P.cl)).setCell ⟨w.heap.size, 11, none⟩ (.slice P.G x'.again.length P.cg)) := h.fresh.trans ht (fun k hk e => by have e : k = w.heap.size := e; omega)
  generalize ((((((((((((wr.setCell ⟨w.heap.size, 0, none⟩ (.int .i64 x'.s)).setCell ⟨w.heap.size, 1, none⟩ (.int .i64 x'.a)).setCell ⟨w.heap.size, 2, none⟩ (.int .i64 x'.ms)).setCell ⟨w.heap.size, 3, none⟩ (.int .i64 x'.ps)).setCell ⟨w.heap.size, 4, none⟩ (.int .i64 x'.pa)).setCell ⟨w.heap.size, 5, none⟩ (.int .i64 x'.units)).setCell ⟨w.heap.size, 6, none⟩ (.int .i64 x'.polls)).setCell ⟨w.heap.size, 7, none⟩ (.int .i64 (x'.most : Int))).setCell ⟨w.heap.size, 8, none⟩ (.slice P.W x'.wait.length P.cw)).setCell ⟨w.heap.size, 9, none⟩ (.slice P.K x'.kept.length P.ck)).setCell ⟨w.heap.size, 10, none⟩ (.slice P.L x'.last.length P.cl)).setCell ⟨w.heap.size, 11, none⟩ (.slice P.G x'.again.length P.cg)) = w2 at *
  exact ⟨hb, hr, ⟨h1 ▸ hi.wait, h2 ▸ hi.kept, h3 ▸ hi.last, h4 ▸ hi.again⟩, h.dom, hf⟩
theorem SfBox.done (h : SfBox w wr D P x) (ht : Touch (· = w.heap.size + 1) wr wr') (hD : ∀ k, D k → k < w.heap.size) : SfOut w D x (sfV x P) wr' := by
  have hf : Fresh w wr' := h.fresh.trans ht (fun k hk e => by omega)
  have hi := h.ins.far h.res ht
  refine ⟨fun k => (D k ∨ w.heap.size ≤ k) ∧ k < wr'.heap.size, ⟨P, rfl, hi, ⟨fun ad e => ⟨h.dom.W ad e, hi.wait.lt ad e⟩, fun ad e => ⟨h.dom.K ad e, hi.kept.lt ad e⟩, fun ad e => ⟨h.dom.L ad e, hi.last.lt ad e⟩, fun ad e => ⟨h.dom.G ad e, hi.again.lt ad e⟩⟩, fun k hk => hk.2⟩, hf, fun k hk => hk.1⟩
end

section
variable {lo hi : Int}
set_option maxHeartbeats 4000000 in
set_option maxRecDepth 4000 in
theorem sfopn_b (P : SfP) (x : Sf.S) (ms : Int) (w : World) (hab : 0 ≤ x.a ∧ x.a ≤ 16800000 ∧ 0 ≤ x.ms ∧ x.ms ≤ 30000000) :
    Calls Tryz.prog 35 #[sfV x P, .int .i64 ms] w fun e w' => e = .returned (sfV (Sf.opn x ms) P) ∧ Fresh w w' := by
  have HT := Lib.hid (r01to_any x.a ms)
  obtain ⟨d, hd⟩ : ∃ d, d = (ms - x.a) % 16777216 := ⟨_, rfl⟩
  rw [← hd] at HT
  have ea : Sf.at_ x ms = x.a + d := by unfold Sf.at_; rw [hd]
  have hd0 : 0 ≤ d ∧ d < 16777216 := by omega
  have HY : Hid (Sf.opn x ms = if d ≤ 8388608 ∧ x.ms ≤ x.a + d then { x with ms := x.a + d } else x) := by unfold Hid Sf.opn; rw [ea, ← hd]
  clear hd ea
  obtain ⟨s, a, m, ps, pa, un, po, mo, wt, kp, ls, ag⟩ := x
  simp only at *
  generalize Sf.opn _ ms = y at *
  by_cases c1 : d ≤ 8388608
  · have hc1 : decide (d ≤ 8388608) = true := decide_eq_true c1
    by_cases c2 : m ≤ a + d
    · have hy : y = ⟨s, a, a + d, ps, pa, un, po, mo, wt, kp, ls, ag⟩ := by rw [HY.out, if_pos ⟨c1, c2⟩]
      subst hy
      clear HY
      unfold sfV
      simp only
      go_enter Tryz.func35, Tryz.ntmps35
      go_wp2_with fail
      refine (HT.out _).mono ?_
      rintro e w1 ⟨rfl, rfl⟩
      simp only
      go_wp2
      exact bodyPost_ret (v := _) (by simp [results, Tryz.results35, go_sem]) rfl ⟨rfl, by repeat (first | with_reducible refine Touch.setCell ?_ (fun h => by simp at h <;> omega) _ | with_reducible refine Touch.drewN ?_ _ | with_reducible refine Touch.alloc ?_ _ | with_reducible exact Touch.refl _ _)⟩
    · have hc2 : decide (m ≤ a + d) = false := decide_eq_false c2
      have hy : y = ⟨s, a, m, ps, pa, un, po, mo, wt, kp, ls, ag⟩ := by rw [HY.out, if_neg (fun hh => c2 hh.2)]
      subst hy
      clear HY
      unfold sfV
      simp only
      go_enter Tryz.func35, Tryz.ntmps35
      go_wp2_with fail
      refine (HT.out _).mono ?_
      rintro e w1 ⟨rfl, rfl⟩
      simp only
      go_wp2
      exact bodyPost_ret (v := _) (by simp [results, Tryz.results35, go_sem]) rfl ⟨rfl, by repeat (first | with_reducible refine Touch.setCell ?_ (fun h => by simp at h <;> omega) _ | with_reducible refine Touch.drewN ?_ _ | with_reducible refine Touch.alloc ?_ _ | with_reducible exact Touch.refl _ _)⟩
  · have hc1 : decide (d ≤ 8388608) = false := decide_eq_false c1
    have hy : y = ⟨s, a, m, ps, pa, un, po, mo, wt, kp, ls, ag⟩ := by rw [HY.out, if_neg (fun hh => c1 hh.1)]
    subst hy
    clear HY
    unfold sfV
    simp only
    go_enter Tryz.func35, Tryz.ntmps35
    go_wp2_with fail
    refine (HT.out _).mono ?_
    rintro e w1 ⟨rfl, rfl⟩
    simp only
    go_wp2
    exact bodyPost_ret (v := _) (by simp [results, Tryz.results35, go_sem]) rfl ⟨rfl, by repeat (first | with_reducible refine Touch.setCell ?_ (fun h => by simp at h <;> omega) _ | with_reducible refine Touch.drewN ?_ _ | with_reducible refine Touch.alloc ?_ _ | with_reducible exact Touch.refl _ _)⟩
theorem sfopn_any (P : SfP) (x : Sf.S) (ms : Int) (w : World) (h : Sf.Ok x lo hi) :
    Calls Tryz.prog 35 #[sfV x P, .int .i64 ms] w fun e w' => e = .returned (sfV (Sf.opn x ms) P) ∧ Fresh w w' :=
  sfopn_b P x ms w (by have := h.lo0; have := h.la; have := h.shi; have := h.hl; have := h.msa; have := h.sms; have := h.klen; omega)
end
end Go.Proofs.YtajdnllkkekmnaaGreat

namespace Go.Proofs.YtajdnllkkekmnaaGreat
open Go.RowKit

section
variable {w wr wr' : World} {D : Nat → Prop} {P P' : SfP} {x x' : Sf.S}
theorem SfBox.cells (h : SfBox w wr D P x) : wr.cell? ⟨w.heap.size, 0, none⟩ = some (.int .i64 x.s) ∧ wr.cell? ⟨w.heap.size, 1, none⟩ = some (.int .i64 x.a) ∧ wr.cell? ⟨w.heap.size, 2, none⟩ = some (.int .i64 x.ms) ∧ wr.cell? ⟨w.heap.size, 3, none⟩ = some (.int .i64 x.ps) ∧
    wr.cell? ⟨w.heap.size, 4, none⟩ = some (.int .i64 x.pa) ∧ wr.cell? ⟨w.heap.size, 5, none⟩ = some (.int .i64 x.units) ∧ wr.cell? ⟨w.heap.size, 6, none⟩ = some (.int .i64 x.polls) ∧ wr.cell? ⟨w.heap.size, 7, none⟩ = some (.int .i64 (x.most : Int)) ∧
    wr.cell? ⟨w.heap.size, 8, none⟩ = some (.slice P.W x.wait.length P.cw) ∧ wr.cell? ⟨w.heap.size, 9, none⟩ = some (.slice P.K x.kept.length P.ck) ∧ wr.cell? ⟨w.heap.size, 10, none⟩ = some (.slice P.L x.last.length P.cl) ∧ wr.cell? ⟨w.heap.size, 11, none⟩ = some (.slice P.G x.again.length P.cg) :=
  ⟨h.blk.cell 0, h.blk.cell 1, h.blk.cell 2, h.blk.cell 3, h.blk.cell 4, h.blk.cell 5, h.blk.cell 6, h.blk.cell 7, h.blk.cell 8, h.blk.cell 9, h.blk.cell 10, h.blk.cell 11⟩
theorem SfBox.zeros (h : SfBox w wr D P x) : wr.cell? ⟨w.heap.size + 1, 0, none⟩ = some (.int .i64 0) ∧ wr.cell? ⟨w.heap.size + 1, 1, none⟩ = some (.int .i64 0) ∧ wr.cell? ⟨w.heap.size + 1, 2, none⟩ = some (.int .i64 0) ∧ wr.cell? ⟨w.heap.size + 1, 3, none⟩ = some (.int .i64 0) ∧
    wr.cell? ⟨w.heap.size + 1, 4, none⟩ = some (.int .i64 0) ∧ wr.cell? ⟨w.heap.size + 1, 5, none⟩ = some (.int .i64 0) ∧ wr.cell? ⟨w.heap.size + 1, 6, none⟩ = some (.int .i64 0) ∧ wr.cell? ⟨w.heap.size + 1, 7, none⟩ = some (.int .i64 0) ∧
    wr.cell? ⟨w.heap.size + 1, 8, none⟩ = some (.slice none 0 0) ∧ wr.cell? ⟨w.heap.size + 1, 9, none⟩ = some (.slice none 0 0) ∧ wr.cell? ⟨w.heap.size + 1, 10, none⟩ = some (.slice none 0 0) ∧ wr.cell? ⟨w.heap.size + 1, 11, none⟩ = some (.slice none 0 0) :=
  ⟨h.res.cell 0, h.res.cell 1, h.res.cell 2, h.res.cell 3, h.res.cell 4, h.res.cell 5, h.res.cell 6, h.res.cell 7, h.res.cell 8, h.res.cell 9, h.res.cell 10, h.res.cell 11⟩
end

set_option maxHeartbeats 1000000 in
theorem sfhas_any (y : Int) (A : Option Addr) (c : Nat) (l : List Int) (w : World) (h : Rd intE w A c l) (hl : l.length ≤ 1000000) :
    Calls Tryz.prog 51 #[.slice A l.length c, .int .i64 y] w fun e w' => e = .returned (.bool (decide (y ∈ l))) ∧ Fresh w w' := by
  have H := Lib.hid h
  have HP : Hid (∀ (b : Bool) (e : Ending) (w' : World), e = .returned (.bool b) → (b = true ↔ y ∈ l) → Fresh w w' → e = .returned (.bool (decide (y ∈ l))) ∧ Fresh w w') := fun b e w' h1 h2 h3 => by
    refine ⟨?_, h3⟩
    rw [h1]
    congr 2
    by_cases hy : y ∈ l
    · rw [decide_eq_true hy]; exact h2.2 hy
    · rw [decide_eq_false hy]; cases b <;> simp_all
  generalize hq : decide (y ∈ l) = q at *
  clear h hq
  go_enter Tryz.func51, Tryz.ntmps51
  go_wp2_with fail
  go_loopw [9] (fun s8 wr => ∃ k : Nat, k ≤ l.length ∧ s8 = .int .i64 k ∧ Hid (y ∉ l.take k) ∧ Hid (Fresh w wr)) (fun s8 _ => l.length - (intOf s8).toNat)
  case atStart => exact ⟨0, by omega, rfl, by unfold Hid; simp, Touch.refl _ _⟩
  case round =>
    obtain ⟨k, hk, rfl, HB, HF⟩ := hrel
    by_cases hlt : k < l.length
    · have hk1 : (k : Int) < (l.length : Int) := by omega
      have hk0 : (0 : Int) ≤ (k : Int) := by omega
      obtain ⟨g, o, rfl, _, c0⟩ := (H.out.touch HF.out (fun _ _ _ h => h)).int_at k hlt
      have HT : Hid (l.take (k + 1) = l.take k ++ [l.getD k 0]) := by
        unfold Hid
        rw [List.take_succ_eq_append_getElem hlt]
        simp [List.getD, List.getElem?_eq_getElem hlt]
      have HM : Hid (l.getD k 0 ∈ l) := by
        unfold Hid
        simp [List.getD, List.getElem?_eq_getElem hlt]
      generalize hz : l.getD k 0 = z at *
      by_cases hyz : y = z
      · subst hyz
        have ht : (y == y) = true := by simp
        go_wp2
        go_ret
        exact HP.out true _ _ rfl ⟨fun _ => HM.out, fun _ => rfl⟩ HF.out
      · have ht : (y == z) = false := by simpa using hyz
        have HB2 : Hid (y ∉ l.take (k + 1)) := by
          unfold Hid
          rw [HT.out, List.mem_append, List.mem_singleton]
          exact fun hh => hh.elim HB.out hyz
        clear HB HM hyz
        go_wp2
        go_roundw
        case rel => exact ⟨k + 1, hlt, by go_num, HB2, HF⟩
        case measure => simp [intOf]; omega
    · obtain rfl : k = l.length := by omega
      have HB2 : Hid (y ∉ l) := by have := HB.out; rw [List.take_length] at this; exact this
      clear HB
      go_wp2
      go_ret
      exact HP.out false _ _ rfl ⟨fun h => (Bool.false_ne_true h).elim, fun h => absurd h HB2.out⟩ HF.out

section
variable {lo hi : Int}
set_option maxHeartbeats 4000000 in
set_option maxRecDepth 4000 in
theorem sfput_any (P : SfP) (D : Nat → Prop) (x : Sf.S) (v : ByteArray) (w : World) (h : SfIn w P x) (hd : SfD P D) (hD : ∀ k, D k → k < w.heap.size) (hok : Sf.Ok x lo hi) :
    Calls Tryz.prog 21 #[sfV x P, .string v] w fun e w' => ∃ V, e = .returned (.tuple #[V, .bool (decide (x.wait.length < x.most))]) ∧ SfOut w D (Sf.put x v) V w' := by
  have HB0 : Hid (SfBox w ((w.alloc (.cells #[.int .i64 x.s, .int .i64 x.a, .int .i64 x.ms, .int .i64 x.ps, .int .i64 x.pa, .int .i64 x.units, .int .i64 x.polls, .int .i64 (x.most : Int), .slice P.W x.wait.length P.cw, .slice P.K x.kept.length P.ck, .slice P.L x.last.length P.cl, .slice P.G x.again.length P.cg] 33)).alloc
    (.cells #[.int .i64 0, .int .i64 0, .int .i64 0, .int .i64 0, .int .i64 0, .int .i64 0, .int .i64 0, .int .i64 0, .slice none 0 0, .slice none 0 0, .slice none 0 0, .slice none 0 0] 33)) D P x) := SfBox.new h hd
  have hv : sfV x P = .agg #[.int .i64 x.s, .int .i64 x.a, .int .i64 x.ms, .int .i64 x.ps, .int .i64 x.pa, .int .i64 x.units, .int .i64 x.polls, .int .i64 (x.most : Int), .slice P.W x.wait.length P.cw, .slice P.K x.kept.length P.ck, .slice P.L x.last.length P.cl, .slice P.G x.again.length P.cg] := rfl
  have hwl := hok.wlen
  have hmo := hok.most
  have HDD := Lib.hid hD
  rw [hv]
  clear hv h hd hok hD
  go_enter Tryz.func21, Tryz.ntmps21
  by_cases hroom : x.wait.length < x.most
  · have hm : decide ((x.most : Int) ≤ (x.wait.length : Int)) = false := decide_eq_false (by omega)
    have HPUT : Hid (Sf.put x v = { x with wait := x.wait ++ [v] }) := by unfold Hid Sf.put; rw [if_pos hroom]
    rw [decide_eq_true hroom]
    go_upto_region 3 with (fail)
    generalize World.alloc (World.alloc w _) _ = w2 at *
    obtain ⟨b0, b1, b2, b3, b4, b5, b6, b7, b8, b9, ba, bb⟩ := HB0.out.cells
    have k8 : ∀ o, (w2.alloc o).cell? ⟨w.heap.size, 8, none⟩ = some (.slice P.W x.wait.length P.cw) := fun o => (HB0.out.blk.alloc o).cell 8
    clear hroom
    have M0 := Lib.hid (Mine.lit strE w2 #[] [] rfl 0 rfl (by decide))
    go_upto_region 4 with (first
      | (at_builtin; refine app_str rfl rfl (l := []) (l2 := x.wait) rfl rfl M0.out.sl ((HB0.out.ins.wait.alloc _).rd) (by simp; omega) ?_; intro A3 c3 L3 w3 hL3 hs3 ht3 hA3; have M3 := Lib.hid (M0.out.app hs3 ht3 hA3); have hl3 : L3.length ≤ 300 := by (rw [hL3.out]; simp; omega))
      | (at_builtin; refine app_str rfl rfl (l := L3) (l2 := [v]) rfl rfl (M3.out.alloc (.cells #[.string v] 9)).sl (Sl.rd (Sl.lit strE _ _ rfl _ _ rfl _ rfl (by decide))) (by simp; omega) ?_; intro A4 c4 L4 w4 hL4 hs4 ht4 hA4; have M4 := Lib.hid ((M3.out.alloc (.cells #[.string v] 9)).app hs4 ht4 hA4); have B4 := Lib.hid (HB0.out.old M4.out.fresh); have b8' : w4.cell? ⟨w.heap.size, 8, none⟩ = some (.slice P.W x.wait.length P.cw) := B4.out.blk.cell 8; have f8 := B4.out.blk.frozen 8))
    have B5 : Hid (SfBox w (w4.setCell ⟨w.heap.size, 8, none⟩ (.slice A4 L4.length c4)) D { P with W := A4, cw := c4 } { x with wait := L4 }) :=
      B4.out.put (P' := { P with W := A4, cw := c4 }) (x' := { x with wait := L4 }) 8 _ rfl ⟨M4.out.sl, B4.out.ins.kept, B4.out.ins.last, B4.out.ins.again⟩
        ⟨fun ad e => .inr (by have h1 := M4.out.base ad e; have h2 := HB0.out.fresh.size; show w.heap.size ≤ _; omega), B4.out.dom.K, B4.out.dom.L, B4.out.dom.G⟩
    have HE : Hid ({ x with wait := L4 } = Sf.put x v) := by unfold Hid; rw [HPUT.out, hL4.out, hL3.out]; rfl
    clear b0 b1 b2 b3 b4 b5 b6 b7 b8 b9 ba bb k8 M0 hL3 hs3 ht3 hA3 M3 hl3 hL4 hs4 ht4 hA4 M4 B4 b8' f8 HB0 HPUT
    generalize w4.setCell ⟨w.heap.size, 8, none⟩ (.slice A4 L4.length c4) = w5 at *
    obtain ⟨b0, b1, b2, b3, b4, b5, b6, b7, b8, b9, ba, bb⟩ := B5.out.cells
    obtain ⟨r0, r1, r2, r3, r4, r5, r6, r7, r8, r9, ra, rb⟩ := B5.out.zeros
    have fz := fun i => B5.out.res.frozen i
    have HX : Hid (∀ W, Touch (· = w.heap.size + 1) w5 W → SfOut w D (Sf.put x v) (sfV { x with wait := L4 } { P with W := A4, cw := c4 }) W) := fun W ht => by rw [← HE.out]; exact B5.out.done ht HDD.out
    clear B5 HE HDD
    simp only at b0 b1 b2 b3 b4 b5 b6 b7 b8 b9 ba bb
    go_wp2
    exact bodyPost_ret (v := .tuple #[sfV { x with wait := L4 } { P with W := A4, cw := c4 }, .bool true]) (by simp [results, Tryz.results21, go_sem, sfV, r0, r1, r2, r3, r4, r5, r6, r7, r8, r9, ra, rb]) rfl ⟨_, rfl, HX.out _ (Touch.st12 (S := (· = w.heap.size + 1)) (Touch.refl _ _) rfl)⟩
  · have hm : decide ((x.most : Int) ≤ (x.wait.length : Int)) = true := decide_eq_true (by omega)
    have HPUT : Hid (Sf.put x v = x) := by unfold Hid Sf.put; rw [if_neg hroom]
    rw [decide_eq_false hroom, HPUT.out]
    go_upto_region 2 with (fail)
    generalize World.alloc (World.alloc w _) _ = w2 at *
    obtain ⟨b0, b1, b2, b3, b4, b5, b6, b7, b8, b9, ba, bb⟩ := HB0.out.cells
    obtain ⟨r0, r1, r2, r3, r4, r5, r6, r7, r8, r9, ra, rb⟩ := HB0.out.zeros
    have fz := fun i => HB0.out.res.frozen i
    have HX : Hid (∀ W, Touch (· = w.heap.size + 1) w2 W → SfOut w D x (sfV x P) W) := fun W ht => HB0.out.done ht HDD.out
    clear HB0 HPUT HDD hroom
    go_wp2
    exact bodyPost_ret (v := .tuple #[sfV x P, .bool false]) (by simp [results, Tryz.results21, go_sem, sfV, r0, r1, r2, r3, r4, r5, r6, r7, r8, r9, ra, rb]) rfl ⟨_, rfl, HX.out _ (Touch.st12 (S := (· = w.heap.size + 1)) (Touch.refl _ _) rfl)⟩
end
end Go.Proofs.YtajdnllkkekmnaaGreat

namespace Go.Proofs.YtajdnllkkekmnaaGreat
open Go.RowKit

theorem Sl.apart2 {α β : Type} {E : El α} {E' : El β} {w : World} {A B : Option Addr} {c d : Nat} {l : List α} {m : List β} (h : Sl E w A c l) (h' : Sl E' w B d m) (hne : E.e ≠ E'.e) : ∀ ad ad', A = some ad → B = some ad' → ad.block ≠ ad'.block := fun ad ad' e e' => by
  obtain ⟨_, cs, hb, _⟩ := h'.2.2.2 ad' e'
  exact h.blk_ne hb hne ad e

section
variable {lo hi : Int}
set_option maxHeartbeats 8000000 in
set_option maxRecDepth 8000 in
theorem sfnext_again (P : SfP) (D : Nat → Prop) (x : Sf.S) (n : Int) (r : List Int) (w : World) (h : SfIn w P x) (hd : SfD P D) (hD : ∀ k, D k → k < w.heap.size) (hok : Sf.Ok x lo hi) (ha : x.again = n :: r) :
    Calls Tryz.prog 33 #[sfV x P] w fun e w' => ∃ V, e = .returned (.tuple #[V, .int .i64 n, .string (x.kept.getD (n - x.a).toNat default), .bool false, .bool true]) ∧ SfOut w D (Sf.repeat1 x n r) V w' := by
  have HB0 : Hid (SfBox w ((w.alloc (.cells #[.int .i64 x.s, .int .i64 x.a, .int .i64 x.ms, .int .i64 x.ps, .int .i64 x.pa, .int .i64 x.units, .int .i64 x.polls, .int .i64 (x.most : Int), .slice P.W x.wait.length P.cw, .slice P.K x.kept.length P.ck, .slice P.L x.last.length P.cl, .slice P.G x.again.length P.cg] 33)).alloc
    (.cells #[.int .i64 0, .int .i64 0, .int .i64 0, .int .i64 0, .int .i64 0, .int .i64 0, .int .i64 0, .int .i64 0, .slice none 0 0, .slice none 0 0, .slice none 0 0, .slice none 0 0] 33)) D P x) := SfBox.new h hd
  have hv : sfV x P = .agg #[.int .i64 x.s, .int .i64 x.a, .int .i64 x.ms, .int .i64 x.ps, .int .i64 x.pa, .int .i64 x.units, .int .i64 x.polls, .int .i64 (x.most : Int), .slice P.W x.wait.length P.cw, .slice P.K x.kept.length P.ck, .slice P.L x.last.length P.cl, .slice P.G x.again.length P.cg] := rfl
  have HDD := Lib.hid hD
  have hk := hok.klen
  have hl := hok.kl
  have hll := hok.llen
  have hag := hok.ags n (by rw [ha]; simp)
  have hlo := hok.lo0
  have hla := hok.la
  have hun := hok.units
  have hlh := hok.hl
  have hj : (n - x.a).toNat < x.kept.length := by omega
  have hj1 : n - x.a < (x.kept.length : Int) := by omega
  have hj2 : n - x.a < (x.last.length : Int) := by omega
  have hl2 : x.last.length ≤ 4000 := by omega
  have hab : 0 ≤ x.a ∧ x.a ≤ 16800000 ∧ x.a ≤ n ∧ n ≤ 16800000 := by have := hok.shi; omega
  have hub : 0 ≤ x.units ∧ x.units ≤ 4000 := by omega
  have HLL := Lib.hid hll
  have hsi := h.again
  rw [ha] at hsi
  obtain ⟨ga, oa, hAe, hga, ca⟩ := hsi.int_at 0 (by simp)
  rw [Nat.add_zero, List.getD_cons_zero] at ca
  have hgD : ga < w.heap.size := hga
  have hcl := hsi.1
  have hcm := hsi.2.1
  unfold maxLen at hcm
  rw [List.length_cons] at hcl
  obtain ⟨B, hB⟩ : ∃ B, (if P.cg = 1 then some (⟨ga, oa, none⟩ : Addr) else some ⟨ga, oa + 1, none⟩) = B := ⟨_, rfl⟩
  have HS2 : Hid (Sl intE w B (P.cg - 1) r) := by
    have := hsi.from_ (k := 1) (by simp)
    rw [hAe] at this
    rw [← hB]
    by_cases h1 : P.cg = 1
    · rw [if_pos h1] at this ⊢
      exact this
    · rw [if_neg h1] at this ⊢
      have h2 : Sl intE w (some (Addr.add ⟨ga, oa, none⟩ 1)) (P.cg - 1) r := this
      rwa [Addr.add_lit] at h2
  have HBA : Hid (∀ ad, B = some ad → ad.block = ga) := fun ad e => by
    rw [← hB] at e
    split at e <;> (injection e with e; subst e; rfl)
  have HDG : Hid (D ga) := hd.G _ hAe
  obtain ⟨N, hN⟩ : ∃ N, r.length = N := ⟨_, rfl⟩
  have HAL : Hid (x.again.length = N + 1) := by rw [ha, ← hN]; rfl
  rw [hN] at hcl
  have hlz : (0 : Int) < (N : Int) + 1 := by omega
  have hdz : decide ((0 : Int) < (N : Int) + 1) = true := decide_eq_true hlz
  have h1c : (1 : Int) ≤ (N : Int) + 1 := by omega
  have hNc : (N : Int) + 1 ≤ (P.cg : Int) := by omega
  have HNe := Lib.hid hN
  have HAGE := Lib.hid ha
  rw [hv]
  rw [HAL.out] at HB0 ⊢
  rw [hAe] at HB0 ⊢
  have HAE := Lib.hid hAe
  clear hv h hd hok hD ha hN hAe hsi hk hll hag hlo hla hun hlh
  go_enter Tryz.func33, Tryz.ntmps33
  go_upto_region 1 with (fail)
  generalize World.alloc (World.alloc w _) _ = w2 at *
  obtain ⟨b0, b1, b2, b3, b4, b5, b6, b7, b8, b9, ba, bb⟩ := HB0.out.cells
  rw [HAL.out, HAE.out] at bb
  have ca2 : w2.cell? ⟨ga, oa, none⟩ = some (.int .i64 n) := by
    have := (HB0.out.ins.again.int_at 0 (by rw [HAL.out]; omega))
    obtain ⟨g', o', e1, _, c0⟩ := this
    rw [HAE.out] at e1
    cases e1
    rw [HAGE.out] at c0
    exact c0
  have f11 := HB0.out.blk.frozen 11
  have B3 : Hid (SfBox w (w2.setCell ⟨w.heap.size, 11, none⟩ (.slice B N (P.cg - 1))) D { P with G := B, cg := P.cg - 1 } { x with again := r }) := by
    have h0 := HB0.out
    refine h0.put (P' := { P with G := B, cg := P.cg - 1 }) (x' := { x with again := r }) 11 _ (by rw [← HNe.out]; rfl) ⟨h0.ins.wait, h0.ins.kept, h0.ins.last, HS2.out.touch h0.fresh (fun _ _ h => h)⟩ ⟨h0.dom.W, h0.dom.K, h0.dom.L, fun ad e => .inl (by rw [HBA.out ad e]; exact HDG.out)⟩
  have HBL : Hid (∀ ad, B = some ad → ad.block < w.heap.size) := fun ad e => by rw [HBA.out ad e]; exact hgD
  clear HS2 HBA HDG HNe HAGE HAL
  go_upto_region 3 with (fail)
  go_cut [] (fun wx => wx = w2.setCell ⟨w.heap.size, 11, none⟩ (.slice B N (P.cg - 1)))
  case first =>
    clear B3 HB0 HBL b0 b1 b2 b3 b4 b5 b6 b7 b8 b9 ba ca2 hdz
    generalize P.cg = cg at *
    by_cases h1 : cg = 1
    · rw [if_pos h1] at hB
      subst h1
      have hN0 : N = 0 := by omega
      subst hN0
      subst hB
      go_wp2
      go_meet
      case rel => first | rfl | trivial
    · rw [if_neg h1] at hB
      subst hB
      go_wp2
      go_meet
      case rel => first | rfl | trivial
  case rest =>
    subst hcut
    clear b0 b1 b2 b3 b4 b5 b6 b7 b8 b9 ba bb ca2 f11 hB HB0
    generalize w2.setCell ⟨w.heap.size, 11, none⟩ (.slice B N (P.cg - 1)) = w3 at *
    have M0 := Lib.hid (Mine.lit intE w3 #[] [] rfl 0 rfl (by decide))
    have k10 : ∀ o, (w3.alloc o).cell? ⟨w.heap.size, 10, none⟩ = some (.slice P.L x.last.length P.cl) := fun o => (B3.out.blk.alloc o).cell 10
    go_upto_region 5 with (at_builtin; refine app_int rfl rfl (l := []) (l2 := x.last) rfl rfl M0.out.sl ((B3.out.ins.last.alloc _).rd) (by simp; omega) ?_; intro A4 c4 L4 w4 hL4 hs4 ht4 hA4; have M4 := Lib.hid (M0.out.app hs4 ht4 hA4); have B4 := Lib.hid (B3.out.old M4.out.fresh); have ba' : w4.cell? ⟨w.heap.size, 10, none⟩ = some (.slice P.L x.last.length P.cl) := B4.out.blk.cell 10; have f10 := B4.out.blk.frozen 10)
    have HL4 : Hid (L4 = x.last) := hL4.out
    have hj4 : n - x.a < (L4.length : Int) := by rw [HL4.out]; exact hj2
    have HB4 : Hid (∀ ad, A4 = some ad → w3.heap.size ≤ ad.block) := M4.out.base
    have hs3 := B3.out.fresh.size
    have B5 : Hid (SfBox w (w4.setCell ⟨w.heap.size, 10, none⟩ (.slice A4 L4.length c4)) D { P with L := A4, cl := c4, G := B, cg := P.cg - 1 } { x with again := r, last := L4 }) :=
      B4.out.put (P' := { P with L := A4, cl := c4, G := B, cg := P.cg - 1 }) (x' := { x with again := r, last := L4 }) 10 _ rfl ⟨B4.out.ins.wait, B4.out.ins.kept, M4.out.sl, B4.out.ins.again⟩
        ⟨B4.out.dom.W, B4.out.dom.K, fun ad e => .inr (by have h1 := M4.out.base ad e; show w.heap.size ≤ _; omega), B4.out.dom.G⟩
    clear M0 k10 hs4 ht4 hA4 M4 B4 ba' f10 hL4 B3
    generalize w4.setCell ⟨w.heap.size, 10, none⟩ (.slice A4 L4.length c4) = w5 at *
    obtain ⟨b0, b1, b2, b3, b4, b5, b6, b7, b8, b9, ba, bb⟩ := B5.out.cells
    simp only at b0 b1 b2 b3 b4 b5 b6 b7 b8 b9 ba bb
    obtain ⟨J, hJ⟩ : ∃ J : Nat, (n - x.a).toNat = J := ⟨_, rfl⟩
    have hJ4 : J < L4.length := by omega
    have hn0 : 0 ≤ n - x.a := by omega
    have hn1 : x.a ≤ n := by omega
    obtain ⟨g4, o4, rfl, hg4, c4J⟩ := B5.out.ins.last.int_at J hJ4
    simp only at c4J
    have f4J := B5.out.ins.last.frozen g4 o4 rfl (o4 + J)
    have hgw : g4 ≠ w.heap.size := B5.out.ins.last.blk_ne B5.out.blk (by decide) _ rfl
    have hgw1 : g4 ≠ w.heap.size + 1 := B5.out.ins.last.blk_ne B5.out.res (by decide) _ rfl
    have hg3 : w3.heap.size ≤ g4 := HB4.out _ rfl
    have B6 : Hid (SfBox w (w5.setCell ⟨g4, o4 + J, none⟩ (.int .i64 x.ps)) D { P with L := some ⟨g4, o4, none⟩, cl := c4, G := B, cg := P.cg - 1 } { x with again := r, last := L4.set J x.ps }) := by
      have h5 := B5.out
      have hT : Touch (· = g4) w5 (w5.setCell ⟨g4, o4 + J, none⟩ (.int .i64 x.ps)) := Touch.set1 w5 g4 (o4 + J) _
      refine ⟨?_, h5.res.far (by simpa using hgw1.symm) _, ⟨h5.ins.wait.touch hT (fun ad e e2 => ?_), h5.ins.kept.touch hT (fun ad e e2 => ?_), h5.ins.last.set1 rfl rfl rfl, h5.ins.again.touch hT (fun ad e e2 => ?_)⟩, h5.dom, h5.fresh.setCell (fun hh => by simp at hh; omega) _⟩
      · have := h5.blk.far (p := ⟨g4, o4 + J, none⟩) (by simpa using hgw.symm) (.int .i64 x.ps)
        refine this.eq_cells ?_
        unfold sfCells
        simp
      · exact Sl.apart2 h5.ins.wait h5.ins.last (by decide) ad _ e rfl e2
      · exact Sl.apart2 h5.ins.kept h5.ins.last (by decide) ad _ e rfl e2
      · have := HBL.out ad e
        omega
    clear HBL HB4 B5 hs3 hgw hgw1 hg3
    go_upto_region 6 with (fail)
    clear b0 b1 b2 b3 b4 b5 b6 b7 b8 b9 ba bb c4J f4J
    generalize w5.setCell ⟨g4, o4 + J, none⟩ (.int .i64 x.ps) = w6 at *
    have b5 : w6.cell? ⟨w.heap.size, 5, none⟩ = some (.int .i64 x.units) := B6.out.blk.cell 5
    have f5 := B6.out.blk.frozen 5
    have B7 : Hid (SfBox w (w6.setCell ⟨w.heap.size, 5, none⟩ (.int .i64 (x.units + 1))) D { P with L := some ⟨g4, o4, none⟩, cl := c4, G := B, cg := P.cg - 1 } { x with again := r, last := L4.set J x.ps, units := x.units + 1 }) := B6.out.scalar 5 _ rfl rfl rfl rfl rfl
    clear B6
    go_upto_region 7 with (fail)
    clear b5 f5
    generalize w6.setCell ⟨w.heap.size, 5, none⟩ (.int .i64 (x.units + 1)) = w7 at *
    have hjk : J < x.kept.length := by omega
    obtain ⟨gk, ok, hKe, hgk, ck⟩ := B7.out.ins.kept.str_at J hjk
    simp only at hKe ck
    have hk0 : gk ≠ w.heap.size + 1 := B7.out.ins.kept.blk_ne B7.out.res (by decide) _ hKe
    obtain ⟨v, hvv⟩ : ∃ v, x.kept.getD J ByteArray.empty = v := ⟨_, rfl⟩
    rw [hvv] at ck
    have HVV : Hid (x.kept.getD J default = v) := hvv
    have HE : Hid ({ x with again := r, last := L4.set J x.ps, units := x.units + 1 } = Sf.repeat1 x n r) := by unfold Hid; rw [HL4.out, ← hJ]; rfl
    obtain ⟨b0, b1, b2, b3, b4, b5, b6, b7, b8, b9, ba, bb⟩ := B7.out.cells
    obtain ⟨r0, r1, r2, r3, r4, r5, r6, r7, r8, r9, ra, rb⟩ := B7.out.zeros
    simp only at b0 b1 b2 b3 b4 b5 b6 b7 b8 b9 ba bb
    rw [hKe] at b9
    have fz := fun i => B7.out.res.frozen i
    obtain ⟨n4, hn4⟩ : ∃ n4, (L4.set J x.ps).length = n4 := ⟨_, rfl⟩
    obtain ⟨n5, hn5⟩ : ∃ n5, r.length = n5 := ⟨_, rfl⟩
    have HX : Hid (∀ W, Touch (· = w.heap.size + 1) w7 W → SfOut w D (Sf.repeat1 x n r) (.agg #[.int .i64 x.s, .int .i64 x.a, .int .i64 x.ms, .int .i64 x.ps, .int .i64 x.pa, .int .i64 (x.units + 1), .int .i64 x.polls, .int .i64 (x.most : Int), .slice P.W x.wait.length P.cw, .slice (some ⟨gk, ok, none⟩) x.kept.length P.ck, .slice (some ⟨g4, o4, none⟩) n4 c4, .slice B n5 (P.cg - 1)]) W) := fun W ht => by
      rw [← HE.out, ← hn4, ← hn5, ← hKe]
      exact B7.out.done ht HDD.out
    have KE : Hid (∀ W, Touch (· = w.heap.size + 1) w7 W → (W.cell? ⟨w.heap.size, 0, none⟩ = some (.int .i64 x.s) ∧ W.cell? ⟨w.heap.size, 1, none⟩ = some (.int .i64 x.a) ∧ W.cell? ⟨w.heap.size, 2, none⟩ = some (.int .i64 x.ms) ∧ W.cell? ⟨w.heap.size, 3, none⟩ = some (.int .i64 x.ps) ∧ W.cell? ⟨w.heap.size, 4, none⟩ = some (.int .i64 x.pa) ∧ W.cell? ⟨w.heap.size, 5, none⟩ = some (.int .i64 (x.units + 1)) ∧ W.cell? ⟨w.heap.size, 6, none⟩ = some (.int .i64 x.polls) ∧ W.cell? ⟨w.heap.size, 7, none⟩ = some (.int .i64 (x.most : Int)) ∧
        W.cell? ⟨w.heap.size, 8, none⟩ = some (.slice P.W x.wait.length P.cw) ∧ W.cell? ⟨w.heap.size, 9, none⟩ = some (.slice (some ⟨gk, ok, none⟩) x.kept.length P.ck) ∧ W.cell? ⟨w.heap.size, 10, none⟩ = some (.slice (some ⟨g4, o4, none⟩) (L4.set J x.ps).length c4) ∧ W.cell? ⟨w.heap.size, 11, none⟩ = some (.slice B r.length (P.cg - 1))) ∧ W.cell? ⟨gk, ok + J, none⟩ = some (.string v)) := fun W ht => by
      have hb := ht.blk B7.out.blk (by simp)
      have hk := B7.out.ins.kept.touch ht (fun ad e e2 => by rw [hKe] at e; cases e; exact hk0 e2)
      obtain ⟨_, _, e1, _, c1⟩ := hk.str_at J hjk
      simp only at e1 c1
      rw [hKe] at e1
      cases e1
      rw [hvv] at c1
      exact ⟨⟨hb.cell 0, hb.cell 1, hb.cell 2, hb.cell 3, hb.cell 4, hb.cell 5, hb.cell 6, hb.cell 7, hb.cell 8, by rw [← hKe]; exact hb.cell 9, hb.cell 10, hb.cell 11⟩, c1⟩
    have HKe := Lib.hid hKe
    clear B7 HE HDD hvv hKe
    rw [hn4] at ba KE
    rw [hn5] at bb KE
    clear hn4 hn5
    have hw : IntKind.i64.wrap (n - x.a) = (J : Int) := by rw [IntWalk.i64_in _ (by omega)]; omega
    have hJ0 : (0 : Int) ≤ (J : Int) := by omega
    have hJk : (J : Int) < (x.kept.length : Int) := by omega
    have HJ := Lib.hid hJ
    clear hJ
    have T1 : Touch (· = w.heap.size + 1) w7 w7.drew := (Touch.refl _ _).drew
    have T2 : ∀ u0 u1 u2 u3 u4 u5 u6 u7 u8 u9 ua ub : Value, Touch (· = w.heap.size + 1) w7 (((((((((((((w7.setCell ⟨w.heap.size + 1, 0, none⟩ u0).setCell ⟨w.heap.size + 1, 1, none⟩ u1).setCell ⟨w.heap.size + 1, 2, none⟩ u2).setCell ⟨w.heap.size + 1, 3, none⟩ u3).setCell ⟨w.heap.size + 1, 4, none⟩ u4).setCell ⟨w.heap.size + 1, 5, none⟩ u5).setCell ⟨w.heap.size + 1, 6, none⟩ u6).setCell ⟨w.heap.size + 1, 7, none⟩ u7).setCell ⟨w.heap.size + 1, 8, none⟩ u8).setCell ⟨w.heap.size + 1, 9, none⟩ u9).setCell ⟨w.heap.size + 1, 10, none⟩ ua).setCell ⟨w.heap.size + 1, 11, none⟩ ub).drew) := fun _ _ _ _ _ _ _ _ _ _ _ _ => (Touch.st12 (S := (· = w.heap.size + 1)) (Touch.refl _ _) rfl).drew
    go_region_held3 (fun wx => (wx.cell? ⟨w.heap.size, 0, none⟩ = some (.int .i64 x.s) ∧ wx.cell? ⟨w.heap.size, 1, none⟩ = some (.int .i64 x.a) ∧ wx.cell? ⟨w.heap.size, 2, none⟩ = some (.int .i64 x.ms) ∧ wx.cell? ⟨w.heap.size, 3, none⟩ = some (.int .i64 x.ps) ∧ wx.cell? ⟨w.heap.size, 4, none⟩ = some (.int .i64 x.pa) ∧ wx.cell? ⟨w.heap.size, 5, none⟩ = some (.int .i64 (x.units + 1)) ∧ wx.cell? ⟨w.heap.size, 6, none⟩ = some (.int .i64 x.polls) ∧ wx.cell? ⟨w.heap.size, 7, none⟩ = some (.int .i64 (x.most : Int)) ∧
        wx.cell? ⟨w.heap.size, 8, none⟩ = some (.slice P.W x.wait.length P.cw) ∧ wx.cell? ⟨w.heap.size, 9, none⟩ = some (.slice (some ⟨gk, ok, none⟩) x.kept.length P.ck) ∧ wx.cell? ⟨w.heap.size, 10, none⟩ = some (.slice (some ⟨g4, o4, none⟩) n4 c4) ∧ wx.cell? ⟨w.heap.size, 11, none⟩ = some (.slice B n5 (P.cg - 1))) ∧ wx.cell? ⟨gk, ok + J, none⟩ = some (.string v))
      (first
        | with_reducible exact KE.out _ (by with_reducible assumption)
        | with_reducible exact KE.out _ (T2 _ _ _ _ _ _ _ _ _ _ _ _))
      (fail)
    all_goals
      go_wp2
      exact bodyPost_ret (v := .tuple #[.agg #[.int .i64 x.s, .int .i64 x.a, .int .i64 x.ms, .int .i64 x.ps, .int .i64 x.pa, .int .i64 (x.units + 1), .int .i64 x.polls, .int .i64 (x.most : Int), .slice P.W x.wait.length P.cw, .slice (some ⟨gk, ok, none⟩) x.kept.length P.ck, .slice (some ⟨g4, o4, none⟩) n4 c4, .slice B n5 (P.cg - 1)], .int .i64 n, .string v, .bool false, .bool true]) (by simp [results, Tryz.results33, go_sem, r0, r1, r2, r3, r4, r5, r6, r7, r8, r9, ra, rb]) rfl ⟨_, by rw [HJ.out, HVV.out], HX.out _ (T2 _ _ _ _ _ _ _ _ _ _ _ _)⟩
end
end Go.Proofs.YtajdnllkkekmnaaGreat

namespace Go.Proofs.YtajdnllkkekmnaaGreat
open Go.RowKit

section
variable {lo hi : Int}
set_option maxHeartbeats 4000000 in
set_option maxRecDepth 8000 in
theorem sfnext_stop (P : SfP) (D : Nat → Prop) (x : Sf.S) (w : World) (h : SfIn w P x) (hd : SfD P D) (hD : ∀ k, D k → k < w.heap.size) (ha : x.again = []) (hs : x.wait = [] ∨ x.ms ≤ x.s) :
    Calls Tryz.prog 33 #[sfV x P] w fun e w' => ∃ V, e = .returned (.tuple #[V, .int .i64 0, .string ByteArray.empty, .bool false, .bool false]) ∧ SfOut w D x V w' := by
  have HB0 : Hid (SfBox w ((w.alloc (.cells #[.int .i64 x.s, .int .i64 x.a, .int .i64 x.ms, .int .i64 x.ps, .int .i64 x.pa, .int .i64 x.units, .int .i64 x.polls, .int .i64 (x.most : Int), .slice P.W x.wait.length P.cw, .slice P.K x.kept.length P.ck, .slice P.L x.last.length P.cl, .slice P.G x.again.length P.cg] 33)).alloc
    (.cells #[.int .i64 0, .int .i64 0, .int .i64 0, .int .i64 0, .int .i64 0, .int .i64 0, .int .i64 0, .int .i64 0, .slice none 0 0, .slice none 0 0, .slice none 0 0, .slice none 0 0] 33)) D P x) := SfBox.new h hd
  have hv : sfV x P = .agg #[.int .i64 x.s, .int .i64 x.a, .int .i64 x.ms, .int .i64 x.ps, .int .i64 x.pa, .int .i64 x.units, .int .i64 x.polls, .int .i64 (x.most : Int), .slice P.W x.wait.length P.cw, .slice P.K x.kept.length P.ck, .slice P.L x.last.length P.cl, .slice P.G x.again.length P.cg] := rfl
  have HDD := Lib.hid hD
  have HAL : Hid (x.again.length = 0) := by rw [ha]; exact rfl
  have HST : Hid (x.wait.length = 0 ∨ x.ms ≤ x.s) := hs.imp (fun e => by rw [e]; rfl) id
  rw [hv, HAL.out]
  rw [HAL.out] at HB0
  clear hv h hd hD ha hs
  go_enter Tryz.func33, Tryz.ntmps33
  have hpost : ∀ (w2 : World), SfBox w w2 D P x → ∀ W, Touch (· = w.heap.size + 1) w2 W → SfOut w D x (.agg #[.int .i64 x.s, .int .i64 x.a, .int .i64 x.ms, .int .i64 x.ps, .int .i64 x.pa, .int .i64 x.units, .int .i64 x.polls, .int .i64 (x.most : Int), .slice P.W x.wait.length P.cw, .slice P.K x.kept.length P.ck, .slice P.L x.last.length P.cl, .slice P.G 0 P.cg]) W := fun w2 hb W ht => by rw [← HAL.out]; exact hb.done ht HDD.out
  have HPO := Lib.hid hpost
  clear hpost
  by_cases hw0 : x.wait.length = 0
  · have hb : ((x.wait.length : Int) == 0) = true := by simp [hw0]
    have HW0 := Lib.hid hw0
    clear hw0 HST
    go_upto_region 9 with (fail)
    generalize World.alloc (World.alloc w _) _ = w2 at *
    obtain ⟨b0, b1, b2, b3, b4, b5, b6, b7, b8, b9, ba, bb⟩ := HB0.out.cells
    obtain ⟨r0, r1, r2, r3, r4, r5, r6, r7, r8, r9, ra, rb⟩ := HB0.out.zeros
    rw [HAL.out] at bb
    have fz := fun i => HB0.out.res.frozen i
    have HX := Lib.hid (HPO.out w2 HB0.out)
    clear HB0 HPO HAL HDD
    go_wp2
    exact bodyPost_ret (v := .tuple #[.agg #[.int .i64 x.s, .int .i64 x.a, .int .i64 x.ms, .int .i64 x.ps, .int .i64 x.pa, .int .i64 x.units, .int .i64 x.polls, .int .i64 (x.most : Int), .slice P.W x.wait.length P.cw, .slice P.K x.kept.length P.ck, .slice P.L x.last.length P.cl, .slice P.G 0 P.cg], .int .i64 0, .string ByteArray.empty, .bool false, .bool false]) (by simp [results, Tryz.results33, go_sem, r0, r1, r2, r3, r4, r5, r6, r7, r8, r9, ra, rb]; first | done | rfl) rfl ⟨_, rfl, HX.out _ (Touch.st12 (S := (· = w.heap.size + 1)) (Touch.refl _ _) rfl)⟩
  · have hb : ((x.wait.length : Int) == 0) = false := by simp [hw0]
    have hms : decide (x.ms ≤ x.s) = true := decide_eq_true (HST.out.resolve_left hw0)
    clear hw0 HST
    go_upto_region 9 with (fail)
    generalize World.alloc (World.alloc w _) _ = w2 at *
    obtain ⟨b0, b1, b2, b3, b4, b5, b6, b7, b8, b9, ba, bb⟩ := HB0.out.cells
    obtain ⟨r0, r1, r2, r3, r4, r5, r6, r7, r8, r9, ra, rb⟩ := HB0.out.zeros
    rw [HAL.out] at bb
    have fz := fun i => HB0.out.res.frozen i
    have HX := Lib.hid (HPO.out w2 HB0.out)
    clear HB0 HPO HAL HDD
    go_wp2
    exact bodyPost_ret (v := .tuple #[.agg #[.int .i64 x.s, .int .i64 x.a, .int .i64 x.ms, .int .i64 x.ps, .int .i64 x.pa, .int .i64 x.units, .int .i64 x.polls, .int .i64 (x.most : Int), .slice P.W x.wait.length P.cw, .slice P.K x.kept.length P.ck, .slice P.L x.last.length P.cl, .slice P.G 0 P.cg], .int .i64 0, .string ByteArray.empty, .bool false, .bool false]) (by simp [results, Tryz.results33, go_sem, r0, r1, r2, r3, r4, r5, r6, r7, r8, r9, ra, rb]; first | done | rfl) rfl ⟨_, rfl, HX.out _ (Touch.st12 (S := (· = w.heap.size + 1)) (Touch.refl _ _) rfl)⟩

set_option maxHeartbeats 8000000 in
set_option maxRecDepth 8000 in
theorem sfnext_new (P : SfP) (D : Nat → Prop) (x : Sf.S) (v : ByteArray) (r : List ByteArray) (w : World) (h : SfIn w P x) (hd : SfD P D) (hD : ∀ k, D k → k < w.heap.size) (hok : Sf.Ok x lo hi) (ha : x.again = []) (hwt : x.wait = v :: r) (hms : x.s < x.ms) :
    Calls Tryz.prog 33 #[sfV x P] w fun e w' => ∃ V, e = .returned (.tuple #[V, .int .i64 x.s, .string v, .bool true, .bool true]) ∧ SfOut w D (Sf.fresh1 x v r) V w' := by
  have HB0 : Hid (SfBox w ((w.alloc (.cells #[.int .i64 x.s, .int .i64 x.a, .int .i64 x.ms, .int .i64 x.ps, .int .i64 x.pa, .int .i64 x.units, .int .i64 x.polls, .int .i64 (x.most : Int), .slice P.W x.wait.length P.cw, .slice P.K x.kept.length P.ck, .slice P.L x.last.length P.cl, .slice P.G x.again.length P.cg] 33)).alloc
    (.cells #[.int .i64 0, .int .i64 0, .int .i64 0, .int .i64 0, .int .i64 0, .int .i64 0, .int .i64 0, .int .i64 0, .slice none 0 0, .slice none 0 0, .slice none 0 0, .slice none 0 0] 33)) D P x) := SfBox.new h hd
  have hv : sfV x P = .agg #[.int .i64 x.s, .int .i64 x.a, .int .i64 x.ms, .int .i64 x.ps, .int .i64 x.pa, .int .i64 x.units, .int .i64 x.polls, .int .i64 (x.most : Int), .slice P.W x.wait.length P.cw, .slice P.K x.kept.length P.ck, .slice P.L x.last.length P.cl, .slice P.G x.again.length P.cg] := rfl
  have HDD := Lib.hid hD
  have HAL : Hid (x.again.length = 0) := by rw [ha]; exact rfl
  have hl := hok.kl
  have hl2 : x.last.length ≤ 4000 := by have := hok.llen; omega
  have hwl : x.wait.length ≤ 256 := by have := hok.wlen; have := hok.most; omega
  have hub : 0 ≤ x.units ∧ x.units ≤ 4000 := by have := hok.units; have := hok.hl; omega
  have hsb : 0 ≤ x.s ∧ x.s ≤ 16800000 := by have := hok.klen; have := hok.lo0; have := hok.la; have := hok.shi; have := hok.hl; omega
  have hsi := h.wait
  rw [hwt] at hsi hwl
  obtain ⟨ga, oa, hAe, hga, ca⟩ := hsi.str_at 0 (by simp)
  rw [Nat.add_zero, List.getD_cons_zero] at ca
  have hcl := hsi.1
  have hcm := hsi.2.1
  unfold maxLen at hcm
  rw [List.length_cons] at hcl hwl
  obtain ⟨B, hB⟩ : ∃ B, (if P.cw = 1 then some (⟨ga, oa, none⟩ : Addr) else some ⟨ga, oa + 1, none⟩) = B := ⟨_, rfl⟩
  have HS2 : Hid (Sl strE w B (P.cw - 1) r) := by
    have := hsi.from_ (k := 1) (by simp)
    rw [hAe] at this
    rw [← hB]
    by_cases h1 : P.cw = 1
    · rw [if_pos h1] at this ⊢
      exact this
    · rw [if_neg h1] at this ⊢
      have h2 : Sl strE w (some (Addr.add ⟨ga, oa, none⟩ 1)) (P.cw - 1) r := this
      rwa [Addr.add_lit] at h2
  have HBA : Hid (∀ ad, B = some ad → ad.block = ga) := fun ad e => by
    rw [← hB] at e
    split at e <;> (injection e with e; subst e; rfl)
  have HDG : Hid (D ga) := hd.W _ hAe
  obtain ⟨N, hN⟩ : ∃ N, r.length = N := ⟨_, rfl⟩
  have HWL : Hid (x.wait.length = N + 1) := by rw [hwt, ← hN]; rfl
  rw [hN] at hcl hwl
  have hb : ((N : Int) + 1 == 0) = false := by simp; omega
  have hmsd : decide (x.ms ≤ x.s) = false := decide_eq_false (by omega)
  have h1c : (1 : Int) ≤ (N : Int) + 1 := by omega
  have h1z : (0 : Int) < (N : Int) + 1 := by omega
  have hNc : (N : Int) + 1 ≤ (P.cw : Int) := by omega
  have HNe := Lib.hid hN
  have HWE := Lib.hid hwt
  have HAE := Lib.hid hAe
  rw [hv, HAL.out, HWL.out, hAe]
  rw [HAL.out, HWL.out, hAe] at HB0
  clear hv h hd hok hD ha hN hAe hsi hwt hms
  go_enter Tryz.func33, Tryz.ntmps33
  go_upto_region 10 with (fail)
  generalize World.alloc (World.alloc w _) _ = w2 at *
  have b8 : w2.cell? ⟨w.heap.size, 8, none⟩ = some (.slice (some ⟨ga, oa, none⟩) (N + 1) P.cw) := by have := HB0.out.blk.cell 8; rw [← HAE.out, ← HWL.out]; exact this
  have ca2 : w2.cell? ⟨ga, oa, none⟩ = some (.string v) := by
    have := (HB0.out.ins.wait.str_at 0 (by rw [HWL.out]; omega))
    obtain ⟨g', o', e1, _, c0⟩ := this
    rw [HAE.out] at e1
    cases e1
    rw [HWE.out] at c0
    exact c0
  have f8 := HB0.out.blk.frozen 8
  have B3 : Hid (SfBox w (w2.setCell ⟨w.heap.size, 8, none⟩ (.slice B N (P.cw - 1))) D { P with W := B, cw := P.cw - 1 } { x with wait := r }) := by
    have h0 := HB0.out
    refine h0.put (P' := { P with W := B, cw := P.cw - 1 }) (x' := { x with wait := r }) 8 _ (by rw [← HNe.out]; rfl) ⟨HS2.out.touch h0.fresh (fun _ _ h => h), h0.ins.kept, h0.ins.last, h0.ins.again⟩ ⟨fun ad e => .inl (by rw [HBA.out ad e]; exact HDG.out), h0.dom.K, h0.dom.L, h0.dom.G⟩
  clear HS2 HBA HDG HWE HWL hga ca
  go_upto_region 11 with (fail)
  go_cut [] (fun wx => wx = w2.setCell ⟨w.heap.size, 8, none⟩ (.slice B N (P.cw - 1)))
  case first =>
    clear B3 HB0 ca2 hb
    generalize P.cw = cw at *
    by_cases h1 : cw = 1
    · rw [if_pos h1] at hB
      subst h1
      have hN0 : N = 0 := by omega
      subst hN0
      subst hB
      go_wp2
      go_meet
      case rel => first | rfl | trivial
    · rw [if_neg h1] at hB
      subst hB
      go_wp2
      go_meet
      case rel => first | rfl | trivial
  case rest =>
    subst hcut
    clear ca2 f8 hB HB0 b8 hb hmsd h1c h1z hNc
    generalize w2.setCell ⟨w.heap.size, 8, none⟩ (.slice B N (P.cw - 1)) = w3 at *
    have k9 : ∀ o, (w3.alloc o).cell? ⟨w.heap.size, 9, none⟩ = some (.slice P.K x.kept.length P.ck) := fun o => (B3.out.blk.alloc o).cell 9
    have M0 := Lib.hid (Mine.lit strE w3 #[] [] rfl 0 rfl (by decide))
    go_upto_region 13 with (first
      | (at_builtin; refine app_str rfl rfl (l := []) (l2 := x.kept) rfl rfl M0.out.sl ((B3.out.ins.kept.alloc _).rd) (by simp; omega) ?_; intro A3 c3 L3 w4 hL3 hs3 ht3 hA3; have M3 := Lib.hid (M0.out.app hs3 ht3 hA3); have hl3 : L3.length ≤ 4000 := by (rw [hL3.out]; simp; omega))
      | (at_builtin; refine app_str rfl rfl (l := L3) (l2 := [v]) rfl rfl (M3.out.alloc (.cells #[.string v] 9)).sl (Sl.rd (Sl.lit strE _ _ rfl _ _ rfl _ rfl (by decide))) (by simp; omega) ?_; intro A4 c4 L4 w5 hL4 hs4 ht4 hA4; have M4 := Lib.hid ((M3.out.alloc (.cells #[.string v] 9)).app hs4 ht4 hA4); have B4 := Lib.hid (B3.out.old M4.out.fresh); have b9' : w5.cell? ⟨w.heap.size, 9, none⟩ = some (.slice P.K x.kept.length P.ck) := B4.out.blk.cell 9; have f9 := B4.out.blk.frozen 9))
    have HL4 : Hid (L4 = x.kept ++ [v]) := by unfold Hid; rw [hL4.out, hL3.out]; rfl
    have B5 : Hid (SfBox w (w5.setCell ⟨w.heap.size, 9, none⟩ (.slice A4 L4.length c4)) D { P with W := B, cw := P.cw - 1, K := A4, ck := c4 } { x with wait := r, kept := L4 }) :=
      B4.out.put (P' := { P with W := B, cw := P.cw - 1, K := A4, ck := c4 }) (x' := { x with wait := r, kept := L4 }) 9 _ rfl ⟨B4.out.ins.wait, M4.out.sl, B4.out.ins.last, B4.out.ins.again⟩
        ⟨B4.out.dom.W, fun ad e => .inr (by have h1 := M4.out.base ad e; have h2 := B3.out.fresh.size; show w.heap.size ≤ _; omega), B4.out.dom.L, B4.out.dom.G⟩
    clear k9 M0 hL3 hs3 ht3 hA3 M3 hl3 hL4 hs4 ht4 hA4 M4 B4 b9' f9 B3
    generalize w5.setCell ⟨w.heap.size, 9, none⟩ (.slice A4 L4.length c4) = w6 at *
    go_cut [] (fun wx => ∃ A7 c7 L7, Hid (L7 = x.last ++ [x.ps]) ∧ Hid (SfBox w wx D { P with W := B, cw := P.cw - 1, K := A4, ck := c4, L := A7, cl := c7 } { x with wait := r, kept := L4, last := L7 }))
    case first =>
      have ba : w6.cell? ⟨w.heap.size, 10, none⟩ = some (.slice P.L x.last.length P.cl) := B5.out.blk.cell 10
      have b3 : w6.cell? ⟨w.heap.size, 3, none⟩ = some (.int .i64 x.ps) := B5.out.blk.cell 3
      have k10 : ∀ o, (w6.alloc o).cell? ⟨w.heap.size, 10, none⟩ = some (.slice P.L x.last.length P.cl) := fun o => (B5.out.blk.alloc o).cell 10
      have k10b : ∀ o o', ((w6.alloc o).alloc o').cell? ⟨w.heap.size, 10, none⟩ = some (.slice P.L x.last.length P.cl) := fun o o' => ((B5.out.blk.alloc o).alloc o').cell 10
      have k3 : ∀ o, (w6.alloc o).cell? ⟨w.heap.size, 3, none⟩ = some (.int .i64 x.ps) := fun o => (B5.out.blk.alloc o).cell 3
      have HBK : Hid (Blk w6.drew w.heap.size 33 (sfCells { x with wait := r, kept := L4 } { P with W := B, cw := P.cw - 1, K := A4, ck := c4 })) := B5.out.blk
      have hlt6 : w.heap.size < w6.heap.size := B5.out.blk.lt
      have HLA := Lib.hid B5.out.ins.last
      have HFIN : Hid (∀ W A7 c7 L7, L7 = x.last ++ [x.ps] → Fresh w6 W → Sl intE W A7 c7 L7 → (∀ ad, A7 = some ad → w6.heap.size ≤ ad.block) → SfBox w (W.setCell ⟨w.heap.size, 10, none⟩ (.slice A7 L7.length c7)) D { P with W := B, cw := P.cw - 1, K := A4, ck := c4, L := A7, cl := c7 } { x with wait := r, kept := L4, last := L7 }) := fun W A7 c7 L7 hL hf hs hb => by
        have h5 := B5.out.old hf
        exact h5.put (P' := { P with W := B, cw := P.cw - 1, K := A4, ck := c4, L := A7, cl := c7 }) (x' := { x with wait := r, kept := L4, last := L7 }) 10 _ rfl ⟨h5.ins.wait, h5.ins.kept, hs, h5.ins.again⟩
          ⟨h5.dom.W, h5.dom.K, fun ad e => .inr (by have := hb ad e; show w.heap.size ≤ _; omega), h5.dom.G⟩
      clear B5
      go_region_law (first
        | (refine stp_int rfl rfl (l := []) (l2 := x.last) rfl rfl ?_ ?_ (by simp; omega) ?_
           (first
             | exact Sl.lit intE _ _ (by first | rfl | (simp; done) | (simp; omega)) #[] [] rfl 0 rfl (by decide)
             | exact (Sl.lit intE _ _ (by first | rfl | (simp; done) | (simp; omega)) #[] [] rfl 0 rfl (by decide)).alloc _)
           (first
             | exact (HLA.out.alloc _).rd
             | exact ((HLA.out.alloc _).alloc _).rd)
           intro A6 c6 L6 w7 hL6 hs6 ht6 hA6
           have F7 : Fresh w6 w7 := by
             first
               | exact Touch.trans (((Touch.refl _ _).drew).alloc _) ht6 (fun y hy e => by simp at e; omega)
               | exact Touch.trans ((((Touch.refl _ _).drew).alloc _).alloc _) ht6 (fun y hy e => by simp at e; omega)
           have A6b : ∀ ad, A6 = some ad → w6.heap.size ≤ ad.block := fun ad e => by
             subst e
             rcases hA6 with e | e <;> (simp at e; omega)
           have hl6 : L6.length ≤ 4000 := by (rw [hL6.out]; simp; omega)
           have hb7 := F7.blk HBK.out (fun h => h)
           have q10 : w7.cell? ⟨w.heap.size, 10, none⟩ = some (.slice P.L x.last.length P.cl) := hb7.cell 10
           have q3 : w7.cell? ⟨w.heap.size, 3, none⟩ = some (.int .i64 x.ps) := hb7.cell 3
           have q10a : ∀ o, (w7.alloc o).cell? ⟨w.heap.size, 10, none⟩ = some (.slice P.L x.last.length P.cl) := fun o => (hb7.alloc o).cell 10)
        | ((first
             | (refine stp_int rfl rfl (l := L6) (l2 := [x.ps]) rfl rfl ?_ ?_ (by simp; omega) ?_
                (first
                  | exact hs6.alloc _
                  | exact hs6)
                (first
                  | exact (Sl.lit intE _ _ (by first | rfl | (simp; done) | (simp; omega)) _ [x.ps] rfl 1 rfl (by decide)).rd
                  | exact (Sl.touch (Sl.drew (Sl.lit intE _ _ (by first | rfl | (simp; done) | (simp; omega)) _ [x.ps] rfl 1 rfl (by decide))) ht6 (by intro ad e; injection e with e; subst e; intro e2; simp at e2 <;> omega)).rd
                  | exact (Sl.touch (Sl.drew (Sl.alloc (Sl.lit intE _ _ (by first | rfl | (simp; done) | (simp; omega)) _ [x.ps] rfl 1 rfl (by decide)) _)) ht6 (by intro ad e; injection e with e; subst e; intro e2; simp at e2 <;> omega)).rd)))
           intro A7 c7 L7 w8 hL7 hs7 ht7 hA7
           have F8 : Fresh w6 w8 := by
             first
               | exact Touch.trans (F7.alloc _) ht7 (fun y hy e => by cases A6 with | none => cases e | some ad => have := A6b ad rfl; simp at e; omega)
               | exact Touch.trans F7 ht7 (fun y hy e => by cases A6 with | none => cases e | some ad => have := A6b ad rfl; simp at e; omega)
           have A7b : ∀ ad, A7 = some ad → w6.heap.size ≤ ad.block := fun ad e => by
             subst e
             have h7 := F7.size
             rcases hA7 with e | e
             · cases A6 with
               | none => cases e
               | some ad' => have := A6b ad' rfl; simp at e; omega
             · simp at e; omega
           have hb8 := F8.blk HBK.out (fun h => h)
           have p10 : w8.cell? ⟨w.heap.size, 10, none⟩ = some (.slice P.L x.last.length P.cl) := hb8.cell 10
           have z10 := hb8.frozen 10))
      all_goals
        have hX := HFIN.out w8 A7 c7 L7 (by rw [hL7.out, hL6.out]; rfl) F8 hs7 A7b
        have HXX := Lib.hid hX
        have HL7 : Hid (L7 = x.last ++ [x.ps]) := by unfold Hid; rw [hL7.out, hL6.out]; rfl
        clear hX
        go_wp2
        go_meet
        case rel => exact ⟨A7, c7, L7, HL7, HXX⟩
    case rest =>
      obtain ⟨A7, c7, L7, HL7, B7⟩ := hcut
      clear B5
      have b0 : wc.cell? ⟨w.heap.size, 0, none⟩ = some (.int .i64 x.s) := B7.out.blk.cell 0
      have f0 := B7.out.blk.frozen 0
      have B8 : Hid (SfBox w (wc.setCell ⟨w.heap.size, 0, none⟩ (.int .i64 (x.s + 1))) D { P with W := B, cw := P.cw - 1, K := A4, ck := c4, L := A7, cl := c7 } { x with wait := r, kept := L4, last := L7, s := x.s + 1 }) := B7.out.scalar 0 _ rfl rfl rfl rfl rfl
      clear B7
      go_upto_region 15 with (fail)
      clear b0 f0
      generalize wc.setCell ⟨w.heap.size, 0, none⟩ (.int .i64 (x.s + 1)) = w9 at *
      have b5 : w9.cell? ⟨w.heap.size, 5, none⟩ = some (.int .i64 x.units) := B8.out.blk.cell 5
      have f5 := B8.out.blk.frozen 5
      have B9 : Hid (SfBox w (w9.setCell ⟨w.heap.size, 5, none⟩ (.int .i64 (x.units + 1))) D { P with W := B, cw := P.cw - 1, K := A4, ck := c4, L := A7, cl := c7 } { x with wait := r, kept := L4, last := L7, s := x.s + 1, units := x.units + 1 }) := B8.out.scalar 5 _ rfl rfl rfl rfl rfl
      clear B8
      go_upto_region 16 with (fail)
      clear b5 f5
      generalize w9.setCell ⟨w.heap.size, 5, none⟩ (.int .i64 (x.units + 1)) = w7 at *
      have HE : Hid ({ x with wait := r, kept := L4, last := L7, s := x.s + 1, units := x.units + 1 } = Sf.fresh1 x v r) := by unfold Hid; rw [HL4.out, HL7.out]; rfl
      obtain ⟨b0, b1, b2, b3, b4, b5, b6, b7, b8, b9, ba, bb⟩ := B9.out.cells
      obtain ⟨r0, r1, r2, r3, r4, r5, r6, r7, r8, r9, ra, rb⟩ := B9.out.zeros
      simp only at b0 b1 b2 b3 b4 b5 b6 b7 b8 b9 ba bb
      rw [HNe.out] at b8
      rw [HAL.out] at bb
      have fz := fun i => B9.out.res.frozen i
      have HX0 : Hid (∀ W, Touch (· = w.heap.size + 1) w7 W → SfOut w D (Sf.fresh1 x v r) (sfV { x with wait := r, kept := L4, last := L7, s := x.s + 1, units := x.units + 1 } { P with W := B, cw := P.cw - 1, K := A4, ck := c4, L := A7, cl := c7 }) W) := fun W ht => by
        rw [← HE.out]
        exact B9.out.done ht HDD.out
      obtain ⟨n4, hn4⟩ : ∃ n4, L4.length = n4 := ⟨_, rfl⟩
      obtain ⟨n7, hn7⟩ : ∃ n7, L7.length = n7 := ⟨_, rfl⟩
      have HX : Hid (∀ W, Touch (· = w.heap.size + 1) w7 W → SfOut w D (Sf.fresh1 x v r) (.agg #[.int .i64 (x.s + 1), .int .i64 x.a, .int .i64 x.ms, .int .i64 x.ps, .int .i64 x.pa, .int .i64 (x.units + 1), .int .i64 x.polls, .int .i64 (x.most : Int), .slice B N (P.cw - 1), .slice A4 n4 c4, .slice A7 n7 c7, .slice P.G 0 P.cg]) W) := fun W ht => by
        have := HX0.out W ht
        unfold sfV at this
        simp only at this
        rw [hn4, hn7, HNe.out, HAL.out] at this
        exact this
      have KE : Hid (∀ W, Touch (· = w.heap.size + 1) w7 W → W.cell? ⟨w.heap.size, 0, none⟩ = some (.int .i64 (x.s + 1)) ∧ W.cell? ⟨w.heap.size, 1, none⟩ = some (.int .i64 x.a) ∧ W.cell? ⟨w.heap.size, 2, none⟩ = some (.int .i64 x.ms) ∧ W.cell? ⟨w.heap.size, 3, none⟩ = some (.int .i64 x.ps) ∧ W.cell? ⟨w.heap.size, 4, none⟩ = some (.int .i64 x.pa) ∧ W.cell? ⟨w.heap.size, 5, none⟩ = some (.int .i64 (x.units + 1)) ∧ W.cell? ⟨w.heap.size, 6, none⟩ = some (.int .i64 x.polls) ∧ W.cell? ⟨w.heap.size, 7, none⟩ = some (.int .i64 (x.most : Int)) ∧ W.cell? ⟨w.heap.size, 8, none⟩ = some (.slice B N (P.cw - 1)) ∧ W.cell? ⟨w.heap.size, 9, none⟩ = some (.slice A4 n4 c4) ∧ W.cell? ⟨w.heap.size, 10, none⟩ = some (.slice A7 n7 c7) ∧ W.cell? ⟨w.heap.size, 11, none⟩ = some (.slice P.G 0 P.cg)) := fun W ht => by
        have hb := ht.blk B9.out.blk (by simp)
        exact ⟨hb.cell 0, hb.cell 1, hb.cell 2, hb.cell 3, hb.cell 4, hb.cell 5, hb.cell 6, hb.cell 7, by rw [← HNe.out]; exact hb.cell 8, by rw [← hn4]; exact hb.cell 9, by rw [← hn7]; exact hb.cell 10, by rw [← HAL.out]; exact hb.cell 11⟩
      rw [hn4] at b9
      rw [hn7] at ba
      have hw : IntKind.i64.wrap x.s = x.s := IntWalk.i64_in _ (by omega)
      clear B9 HE HDD HX0 hn4 hn7
      have T1 : Touch (· = w.heap.size + 1) w7 w7.drew := (Touch.refl _ _).drew
      have T2 : ∀ u0 u1 u2 u3 u4 u5 u6 u7 u8 u9 ua ub : Value, Touch (· = w.heap.size + 1) w7 (((((((((((((w7.setCell ⟨w.heap.size + 1, 0, none⟩ u0).setCell ⟨w.heap.size + 1, 1, none⟩ u1).setCell ⟨w.heap.size + 1, 2, none⟩ u2).setCell ⟨w.heap.size + 1, 3, none⟩ u3).setCell ⟨w.heap.size + 1, 4, none⟩ u4).setCell ⟨w.heap.size + 1, 5, none⟩ u5).setCell ⟨w.heap.size + 1, 6, none⟩ u6).setCell ⟨w.heap.size + 1, 7, none⟩ u7).setCell ⟨w.heap.size + 1, 8, none⟩ u8).setCell ⟨w.heap.size + 1, 9, none⟩ u9).setCell ⟨w.heap.size + 1, 10, none⟩ ua).setCell ⟨w.heap.size + 1, 11, none⟩ ub).drew) := fun _ _ _ _ _ _ _ _ _ _ _ _ => (Touch.st12 (S := (· = w.heap.size + 1)) (Touch.refl _ _) rfl).drew
      go_region_held3 (fun wx => wx.cell? ⟨w.heap.size, 0, none⟩ = some (.int .i64 (x.s + 1)) ∧ wx.cell? ⟨w.heap.size, 1, none⟩ = some (.int .i64 x.a) ∧ wx.cell? ⟨w.heap.size, 2, none⟩ = some (.int .i64 x.ms) ∧ wx.cell? ⟨w.heap.size, 3, none⟩ = some (.int .i64 x.ps) ∧ wx.cell? ⟨w.heap.size, 4, none⟩ = some (.int .i64 x.pa) ∧ wx.cell? ⟨w.heap.size, 5, none⟩ = some (.int .i64 (x.units + 1)) ∧ wx.cell? ⟨w.heap.size, 6, none⟩ = some (.int .i64 x.polls) ∧ wx.cell? ⟨w.heap.size, 7, none⟩ = some (.int .i64 (x.most : Int)) ∧ wx.cell? ⟨w.heap.size, 8, none⟩ = some (.slice B N (P.cw - 1)) ∧ wx.cell? ⟨w.heap.size, 9, none⟩ = some (.slice A4 n4 c4) ∧ wx.cell? ⟨w.heap.size, 10, none⟩ = some (.slice A7 n7 c7) ∧ wx.cell? ⟨w.heap.size, 11, none⟩ = some (.slice P.G 0 P.cg))
        (first
          | with_reducible exact KE.out _ (by with_reducible assumption)
          | with_reducible exact KE.out _ (T2 _ _ _ _ _ _ _ _ _ _ _ _))
        (fail)
      all_goals
        go_wp2
        exact bodyPost_ret (v := .tuple #[.agg #[.int .i64 (x.s + 1), .int .i64 x.a, .int .i64 x.ms, .int .i64 x.ps, .int .i64 x.pa, .int .i64 (x.units + 1), .int .i64 x.polls, .int .i64 (x.most : Int), .slice B N (P.cw - 1), .slice A4 n4 c4, .slice A7 n7 c7, .slice P.G 0 P.cg], .int .i64 x.s, .string v, .bool true, .bool true]) (by simp [results, Tryz.results33, go_sem, r0, r1, r2, r3, r4, r5, r6, r7, r8, r9, ra, rb, hw]) rfl ⟨_, rfl, HX.out _ (T2 _ _ _ _ _ _ _ _ _ _ _ _)⟩
end
end Go.Proofs.YtajdnllkkekmnaaGreat

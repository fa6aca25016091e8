/-
  polliwogref15: set, Begin, Enough, New: by value.
-/
import Derived.Test.YtipaobpmojahaaaGreatNdP
import Derived.Test.YtipaobpmojahaaaGreatCnP
import Derived.Deep.RegionHeld3
import Derived.Deep.DeepCutAuto
namespace Go.Proofs.YtipaobpmojahaaaGreat
open Go.RowKit

namespace Rf
def offs (l : List Int) (off : List Nat) : List Int := off.foldl (fun l t => l.set t 0) l
def ons (c l : List Int) (on : List Nat) : List Int := on.foldl (fun l t => l.set t (c.getD t 0)) l
theorem offs_take (l : List Int) (off : List Nat) (k : Nat) (hk : k < off.length) : offs l (off.take (k + 1)) = (offs l (off.take k)).set (off.getD k 0) 0 := by
  unfold offs
  rw [List.take_succ_eq_append_getElem hk, List.foldl_append]
  simp [List.getD, List.getElem?_eq_getElem hk]
theorem ons_take (c l : List Int) (on : List Nat) (k : Nat) (hk : k < on.length) : ons c l (on.take (k + 1)) = (ons c l (on.take k)).set (on.getD k 0) (c.getD (on.getD k 0) 0) := by
  unfold ons
  rw [List.take_succ_eq_append_getElem hk, List.foldl_append]
  simp [List.getD, List.getElem?_eq_getElem hk]
theorem offs_len (l : List Int) (off : List Nat) : (offs l off).length = l.length := by
  unfold offs
  induction off generalizing l with
  | nil => rfl
  | cons t off ih => rw [List.foldl_cons, ih, List.length_set]
theorem ons_len (c l : List Int) (on : List Nat) : (ons c l on).length = l.length := by
  unfold ons
  induction on generalizing l with
  | nil => rfl
  | cons t on ih => rw [List.foldl_cons, ih, List.length_set]
end Rf

theorem Sl.int_setg {w : World} {g o c : Nat} {X : List Int} (h : Sl intE w (some ⟨g, o, none⟩) c X) (k : Nat) (x : Int) : Sl intE (w.setCell ⟨g, o + k, none⟩ (.int .i64 x)) (some ⟨g, o, none⟩) c (X.set k x) :=
  h.set1 (by rfl) (g := g) (o := o) rfl (i := k) (x := x) (u := .int .i64 x) rfl
theorem Sl.int_atg {w : World} {g o c : Nat} {X : List Int} (h : Sl intE w (some ⟨g, o, none⟩) c X) (k : Nat) (hk : k < X.length) : w.cell? ⟨g, o + k, none⟩ = some (.int .i64 (X.getD k 0)) := by
  obtain ⟨g', o', e, _, hc⟩ := h.int_at k hk
  injection e with e
  injection e with e1 e2
  subst e1 e2
  exact hc
theorem Sl.some5 {w : World} {A : Option Addr} {c : Nat} {X : List Int} (h : Sl intE w A c X) (h0 : 0 < X.length) : ∃ g o, A = some ⟨g, o, none⟩ := by
  obtain ⟨g, o, e, _⟩ := h.int_at 0 h0
  exact ⟨g, o, e⟩

/-- A pace of the document comes back: its ticks as they were, its counts l. -/
def PPost (Tk : Option Addr) (ck : Nat) (l : List Int) (w : World) (e : Ending) (w' : World) : Prop :=
  ∃ A c, e = .returned (.agg #[.slice Tk 5 ck, .slice A 5 c]) ∧ Sl intE w' A c l ∧ Fresh w w'

set_option maxHeartbeats 2000000 in
theorem set15_any (Tk Lf Aon Aoff : Option Addr) (ck cl con coff : Nat) (c l : List Int) (on off : List Nat) (w : World) (hc5 : c.length = 5) (hl5 : l.length = 5) (hck : Sl intE w Tk ck c) (hcl : Sl intE w Lf cl l)
    (hon : Sl intE w Aon con (on.map fun t : Nat => (t : Int))) (hoff : Sl intE w Aoff coff (off.map fun t : Nat => (t : Int))) (ho5 : ∀ t ∈ on, t < 5) (hf5 : ∀ t ∈ off, t < 5) (hnl : on.length ≤ 5) (hfl : off.length ≤ 5) :
    Calls Tryz.prog 188 #[.agg #[.slice Tk 5 ck, .slice Lf 5 cl], .slice Aon on.length con, .slice Aoff off.length coff] w (PPost Tk ck (Rf.ons c (Rf.offs l off) on) w) := by
  match l, hl5 with
  | [l0, l1, l2, l3, l4], _ =>
  match c, hc5 with
  | [c0, c1, c2, c3, c4], _ =>
  have HCk := Lib.hid hck
  have HCl := Lib.hid hcl
  have HOn := Lib.hid hon
  have HOff := Lib.hid hoff
  have HO5 := Lib.hid ho5
  have HF5 := Lib.hid hf5
  have hwf : ∀ ad, Tk = some ad → ad.block < w.heap.size := hck.lt
  have HWF := Lib.hid hwf
  obtain ⟨gt, ot, rfl⟩ := hck.some5 (by simp)
  clear hck hcl hon hoff ho5 hf5 hwf
  have hbase : Hid (∃ gb, gb = w.heap.size) := ⟨_, rfl⟩
  go_enter Tryz.func188, Tryz.ntmps188
  go_wp2_with (at_builtin; refine app_int rfl rfl (l := []) (l2 := [l0, l1, l2, l3, l4]) rfl rfl (Sl.lit intE _ _ (by simp) #[] [] rfl 0 rfl (by decide)) ((((HCl.out.alloc _).alloc _).alloc _).rd) (by simp) ?_; intro A1 c1' L1 w1 hL1 hs1 ht1 hA1)
  have hl1 : L1 = [l0, l1, l2, l3, l4] := hL1.out
  subst hl1
  have B1 := ht1.blk ((((Blk.new w 31 [.slice (some ⟨gt, ot, none⟩) 5 ck, .slice Lf 5 cl]).alloc (.cells #[.slice none 0 0, .slice none 0 0] 31)).alloc (.cells #[] 3))) (fun e => by simp at e; omega)
  have R0 : Blk ((w.alloc (.cells #[.slice (some ⟨gt, ot, none⟩) 5 ck, .slice Lf 5 cl] 31)).alloc (.cells #[.slice none 0 0, .slice none 0 0] 31)) (w.heap.size + 1) 31 [.slice none 0 0, .slice none 0 0] := by
    have := Blk.new (w.alloc (.cells #[.slice (some ⟨gt, ot, none⟩) 5 ck, .slice Lf 5 cl] 31)) 31 [.slice none 0 0, .slice none 0 0]
    rw [show (w.alloc (.cells #[.slice (some ⟨gt, ot, none⟩) 5 ck, .slice Lf 5 cl] 31)).heap.size = w.heap.size + 1 by simp] at this
    exact this
  have R1 := ht1.blk (R0.alloc (.cells #[] 3)) (fun e => by simp at e)
  have F1 : Fresh w w1 := ((((Touch.refl _ w).alloc _).alloc _).alloc _).trans ht1 (fun k hk e => by simp at e; omega)
  obtain ⟨g, o, rfl⟩ := hs1.some5 (by simp)
  have hg : w.heap.size + 1 < g := by rcases hA1 with e | e <;> (simp at e; omega)
  have HB := Lib.hid B1
  have HRR := Lib.hid R1
  have HF := Lib.hid F1
  have HS := Lib.hid hs1
  clear B1 R0 R1 F1 hs1 ht1 hA1 hL1 HCl hbase
  obtain ⟨gb, hgb⟩ : ∃ gb, gb = w.heap.size := ⟨_, rfl⟩
  rw [← hgb] at HB HRR hg ⊢
  have HGB := Lib.hid hgb
  clear hgb
  go_wp2_with fail
  have hl0 : ([l0, l1, l2, l3, l4] : List Int).length = 5 := rfl
  generalize [l0, l1, l2, l3, l4] = l at *
  have HL0 := Lib.hid hl0
  clear hl0
  go_loopw [18] (fun i wr => ∃ k : Nat, k ≤ off.length ∧ i = .int .i64 k ∧ Hid (Sl intE wr (some ⟨g, o, none⟩) c1' (Rf.offs l (off.take k))) ∧ Hid (Blk wr gb 31 [.slice (some ⟨gt, ot, none⟩) 5 ck, .slice Lf 5 cl]) ∧ Hid (Blk wr (gb + 1) 31 [.slice none 0 0, .slice none 0 0]) ∧ Hid (Fresh w wr)) (fun i _ => off.length - (intOf i).toNat)
  case atStart => exact ⟨0, by omega, rfl, HS, HB, HRR, HF⟩
  case round =>
    clear HS HB HRR HF
    obtain ⟨k, hk, rfl, HS, HB, HRR, HF⟩ := hrel
    by_cases hkl : k < off.length
    · have hk1 : (k : Int) < (off.length : Int) := by omega
      obtain ⟨gf, of_, rfl, _, hcf⟩ := (HOff.out.touch HF.out (fun _ _ h => h)).int_at k (by simpa using hkl)
      have htk := Rf.offs_take l off k hkl
      have ht5 : off.getD k 0 < 5 := by
        have : off.getD k 0 = off[k] := by simp [List.getD, List.getElem?_eq_getElem hkl]
        rw [this]; exact HF5.out _ (List.getElem_mem hkl)
      have hcf' : wr.cell? ⟨gf, of_ + k, none⟩ = some (.int .i64 ((off.getD k 0 : Nat) : Int)) := by
        rw [hcf]
        simp [List.getD, List.getElem?_eq_getElem hkl]
      generalize off.getD k 0 = t at *
      have hlen : (Rf.offs l (off.take k)).length = 5 := by rw [Rf.offs_len]; exact HL0.out
      have hcl := HS.out.int_atg t (by omega)
      have hfz := HS.out.frozen g o rfl (o + t)
      have HS' : Hid (Sl intE (wr.setCell ⟨g, o + t, none⟩ (.int .i64 0)) (some ⟨g, o, none⟩) c1' (Rf.offs l (off.take (k + 1)))) := by rw [htk]; exact HS.out.int_setg t 0
      have HB' := Lib.hid (HB.out.far (p := ⟨g, o + t, none⟩) (by simp only; omega) (.int .i64 0))
      have HR' := Lib.hid (HRR.out.far (p := ⟨g, o + t, none⟩) (by simp only; omega) (.int .i64 0))
      have HF' : Hid (Fresh w (wr.setCell ⟨g, o + t, none⟩ (.int .i64 0))) := HF.out.setCell (fun h => by have := HGB.out; simp at h; omega) _
      have ht5' : (t : Int) < 5 := by omega
      have ht0' : (0 : Int) ≤ (t : Int) := by omega
      generalize (Rf.offs l (off.take k)).getD t 0 = v0 at *
      clear htk hcf HS HB HRR HF hlen
      go_wp2
      go_roundw
      case rel => exact ⟨k + 1, by omega, by go_num, HS', HB', HR', HF'⟩
      case measure => simp [intOf]; omega
    · have e : k = off.length := by omega
      subst e
      rw [List.take_length] at HS
      have hlo : (Rf.offs l off).length = 5 := by rw [Rf.offs_len]; exact HL0.out
      have HLO := Lib.hid hlo
      have hc5 : ([c0, c1, c2, c3, c4] : List Int).length = 5 := rfl
      have HC5 := Lib.hid hc5
      obtain ⟨lo, hlo2⟩ : ∃ lo, lo = Rf.offs l off := ⟨_, rfl⟩
      rw [← hlo2] at HS HLO
      have HLO2 := Lib.hid hlo2
      obtain ⟨cs, hcs⟩ : ∃ cs : List Int, cs = [c0, c1, c2, c3, c4] := ⟨_, rfl⟩
      rw [← hcs] at HCk HC5
      have HCS := Lib.hid hcs
      clear hlo hlo2 hc5 hcs
      go_wp2_with fail
      go_loopw [28] (fun i wr => ∃ k : Nat, k ≤ on.length ∧ i = .int .i64 k ∧ Hid (Sl intE wr (some ⟨g, o, none⟩) c1' (Rf.ons cs lo (on.take k))) ∧ Hid (Blk wr gb 31 [.slice (some ⟨gt, ot, none⟩) 5 ck, .slice Lf 5 cl]) ∧ Hid (Blk wr (gb + 1) 31 [.slice none 0 0, .slice none 0 0]) ∧ Hid (Fresh w wr)) (fun i _ => on.length - (intOf i).toNat)
      case atStart => exact ⟨0, by omega, rfl, HS, HB, HRR, HF⟩
      case round =>
        clear HS HB HRR HF
        obtain ⟨k, hk, rfl, HS, HB, HRR, HF⟩ := hrel
        by_cases hkl : k < on.length
        · have hk1 : (k : Int) < (on.length : Int) := by omega
          obtain ⟨gf, of_, rfl, _, hcf⟩ := (HOn.out.touch HF.out (fun _ _ h => h)).int_at k (by simpa using hkl)
          have htk := Rf.ons_take cs lo on k hkl
          have ht5 : on.getD k 0 < 5 := by
            have : on.getD k 0 = on[k] := by simp [List.getD, List.getElem?_eq_getElem hkl]
            rw [this]; exact HO5.out _ (List.getElem_mem hkl)
          have hcf' : wr.cell? ⟨gf, of_ + k, none⟩ = some (.int .i64 ((on.getD k 0 : Nat) : Int)) := by
            rw [hcf]
            simp [List.getD, List.getElem?_eq_getElem hkl]
          generalize on.getD k 0 = t at *
          have hlen : (Rf.ons cs lo (on.take k)).length = 5 := by rw [Rf.ons_len]; exact HLO.out
          have hcl := HS.out.int_atg t (by omega)
          have hct := (HCk.out.touch HF.out (fun _ _ h => h)).int_atg t (by rw [HC5.out]; omega)
          have hcb : wr.cell? ⟨gb, 0, none⟩ = some (.slice (some ⟨gt, ot, none⟩) 5 ck) := HB.out.cell 0
          have hfz := HS.out.frozen g o rfl (o + t)
          generalize cs.getD t 0 = v1 at *
          have HS' : Hid (Sl intE (wr.setCell ⟨g, o + t, none⟩ (.int .i64 v1)) (some ⟨g, o, none⟩) c1' (Rf.ons cs lo (on.take (k + 1)))) := by rw [htk]; exact HS.out.int_setg t v1
          have HB' := Lib.hid (HB.out.far (p := ⟨g, o + t, none⟩) (by simp only; omega) (.int .i64 v1))
          have HR' := Lib.hid (HRR.out.far (p := ⟨g, o + t, none⟩) (by simp only; omega) (.int .i64 v1))
          have HF' : Hid (Fresh w (wr.setCell ⟨g, o + t, none⟩ (.int .i64 v1))) := HF.out.setCell (fun h => by have := HGB.out; simp at h; omega) _
          have ht5' : (t : Int) < 5 := by omega
          have ht0' : (0 : Int) ≤ (t : Int) := by omega
          generalize (Rf.ons cs lo (on.take k)).getD t 0 = v0 at *
          clear htk hcf HS HB HRR HF hlen
          go_wp2
          go_roundw
          case rel => exact ⟨k + 1, by omega, by go_num, HS', HB', HR', HF'⟩
          case measure => simp [intOf]; omega
        · have e : k = on.length := by omega
          subst e
          rw [List.take_length] at HS
          have hcb : wr.cell? ⟨gb, 0, none⟩ = some (.slice (some ⟨gt, ot, none⟩) 5 ck) := HB.out.cell 0
          have hr0 : wr.cell? ⟨gb + 1, 0, none⟩ = some (.slice none 0 0) := HRR.out.cell 0
          have hr1 : wr.cell? ⟨gb + 1, 1, none⟩ = some (.slice none 0 0) := HRR.out.cell 1
          have hf0 := HRR.out.frozen 0
          have hf1 := HRR.out.frozen 1
          have HBf := Lib.hid ((HRR.out.set 0 (.slice (some ⟨gt, ot, none⟩) 5 ck)).set 1 (.slice (some ⟨g, o, none⟩) 5 c1'))
          have HSf : Hid (Sl intE ((wr.setCell ⟨gb + 1, 0, none⟩ (.slice (some ⟨gt, ot, none⟩) 5 ck)).setCell ⟨gb + 1, 1, none⟩ (.slice (some ⟨g, o, none⟩) 5 c1')) (some ⟨g, o, none⟩) c1' (Rf.ons cs lo on)) :=
            (HS.out.setCell (fun ad ha => by injection ha with ha; subst ha; simp only; omega) _).setCell (fun ad ha => by injection ha with ha; subst ha; simp only; omega) _
          have HFf : Hid (Fresh w ((wr.setCell ⟨gb + 1, 0, none⟩ (.slice (some ⟨gt, ot, none⟩) 5 ck)).setCell ⟨gb + 1, 1, none⟩ (.slice (some ⟨g, o, none⟩) 5 c1'))) :=
            (HF.out.setCell (fun h => by have := HGB.out; simp at h; omega) _).setCell (fun h => by have := HGB.out; simp at h; omega) _
          clear HS HB HF HRR
          go_wp2
          generalize ((wr.setCell ⟨gb + 1, 0, none⟩ (.slice (some ⟨gt, ot, none⟩) 5 ck)).setCell ⟨gb + 1, 1, none⟩ (.slice (some ⟨g, o, none⟩) 5 c1')) = wf at *
          have e0 : wf.cell? ⟨gb + 1, 0, none⟩ = some (.slice (some ⟨gt, ot, none⟩) 5 ck) := HBf.out.cell 0
          have e1 : wf.cell? ⟨gb + 1, 1, none⟩ = some (.slice (some ⟨g, o, none⟩) 5 c1') := HBf.out.cell 1
          exact bodyPost_ret (v := .agg #[.slice (some ⟨gt, ot, none⟩) 5 ck, .slice (some ⟨g, o, none⟩) 5 c1']) (by simp [results, Tryz.results188, go_sem, e0, e1]) rfl ⟨some ⟨g, o, none⟩, c1', rfl, by rw [← HCS.out, ← HLO2.out]; exact HSf.out, HFf.out⟩
theorem R_at (w : World) (o1 : Obj) : Blk ((w.alloc o1).alloc (.cells #[.slice none 0 0, .slice none 0 0] 31)) (w.heap.size + 1) 31 [.slice none 0 0, .slice none 0 0] := by
  have := Blk.new (w.alloc o1) 31 [.slice none 0 0, .slice none 0 0]
  rw [show (w.alloc o1).heap.size = w.heap.size + 1 by simp] at this
  exact this
section
variable (Tk Lf : Option Addr) (ck cl : Nat) (c l : List Int) (w : World)

set_option maxHeartbeats 1000000 in
theorem ref_begin (hc5 : c.length = 5) (hl5 : l.length = 5) (hck : Sl intE w Tk ck c) (hcl : Sl intE w Lf cl l) :
    Calls Tryz.prog 199 #[.agg #[.slice Tk 5 ck, .slice Lf 5 cl]] w (PPost Tk ck (Rf.ons c (Rf.offs l [2, 4]) [1, 3]) w) := by
  have HCk := Lib.hid hck
  have HCl := Lib.hid hcl
  have HC5 := Lib.hid hc5
  have HL5 := Lib.hid hl5
  clear hck hcl hc5 hl5
  go_enter Tryz.func199, Tryz.ntmps199
  go_wp2_with fail
  refine (set15_any Tk Lf _ _ ck cl _ _ c l [1, 3] [2, 4] _ HC5.out HL5.out ((((HCk.out.alloc _).alloc _).alloc _).alloc _) ((((HCl.out.alloc _).alloc _).alloc _).alloc _) ((Sl.lit intE _ _ (by simp) _ _ rfl _ rfl (by decide)).alloc _) (Sl.lit intE _ _ (by simp) _ _ rfl _ rfl (by decide)) (by simp) (by simp) (by simp) (by simp)).mono ?_
  rintro e w1 ⟨A, c', rfl, s1, t1⟩
  have HRR := Lib.hid (t1.blk ((((R_at w _)).alloc _).alloc _) (fun h => h))
  have HF := Lib.hid ((((((Touch.refl _ w).alloc _).alloc _).alloc _).alloc _ : Fresh w _).trans t1 (fun _ _ h => h))
  have HS := Lib.hid s1
  clear s1 t1
  obtain ⟨gb, hgb⟩ : ∃ gb, gb = w.heap.size := ⟨_, rfl⟩
  rw [← hgb] at HRR ⊢
  have HGB := Lib.hid hgb
  have hgw : gb + 1 < w1.heap.size := HRR.out.lt
  clear hgb
  have hr0 : w1.cell? ⟨gb + 1, 0, none⟩ = some (.slice none 0 0) := HRR.out.cell 0
  have hr1 : w1.cell? ⟨gb + 1, 1, none⟩ = some (.slice none 0 0) := HRR.out.cell 1
  have hf0 := HRR.out.frozen 0
  have hf1 := HRR.out.frozen 1
  have HBf := Lib.hid ((HRR.out.set 0 (.slice Tk 5 ck)).set 1 (.slice A 5 c'))
  have hne : ∀ ad, A = some ad → ad.block ≠ gb + 1 := HS.out.blk_ne HRR.out (by decide)
  have HSf := Lib.hid ((HS.out.setCell (p := ⟨gb + 1, 0, none⟩) hne (.slice Tk 5 ck)).setCell (p := ⟨gb + 1, 1, none⟩) hne (.slice A 5 c'))
  have HFf : Hid (Fresh w ((w1.setCell ⟨gb + 1, 0, none⟩ (.slice Tk 5 ck)).setCell ⟨gb + 1, 1, none⟩ (.slice A 5 c'))) :=
    (HF.out.setCell (fun h => by have := HGB.out; simp at h; omega) _).setCell (fun h => by have := HGB.out; simp at h; omega) _
  clear HS HF HRR hne
  go_wp2
  generalize ((w1.setCell ⟨gb + 1, 0, none⟩ (.slice Tk 5 ck)).setCell ⟨gb + 1, 1, none⟩ (.slice A 5 c')) = wf at *
  have e0 : wf.cell? ⟨gb + 1, 0, none⟩ = some (.slice Tk 5 ck) := HBf.out.cell 0
  have e1 : wf.cell? ⟨gb + 1, 1, none⟩ = some (.slice A 5 c') := HBf.out.cell 1
  exact bodyPost_ret (v := .agg #[.slice Tk 5 ck, .slice A 5 c']) (by simp [results, Tryz.results199, go_sem, e0, e1]) rfl ⟨A, c', rfl, HSf.out, HFf.out⟩

set_option maxHeartbeats 1000000 in
theorem ref_enough (hc5 : c.length = 5) (hl5 : l.length = 5) (hck : Sl intE w Tk ck c) (hcl : Sl intE w Lf cl l) :
    Calls Tryz.prog 194 #[.agg #[.slice Tk 5 ck, .slice Lf 5 cl]] w (PPost Tk ck (Rf.ons c (Rf.offs l [0]) []) w) := by
  have HCk := Lib.hid hck
  have HCl := Lib.hid hcl
  have HC5 := Lib.hid hc5
  have HL5 := Lib.hid hl5
  clear hck hcl hc5 hl5
  go_enter Tryz.func194, Tryz.ntmps194
  go_wp2_with fail
  refine (set15_any Tk Lf _ _ ck cl _ _ c l [] [0] _ HC5.out HL5.out (((HCk.out.alloc _).alloc _).alloc _) (((HCl.out.alloc _).alloc _).alloc _) (Sl.nil _ _) (Sl.lit intE _ _ (by simp) _ _ rfl _ rfl (by decide)) (by simp) (by simp) (by simp) (by simp)).mono ?_
  rintro e w1 ⟨A, c', rfl, s1, t1⟩
  have HRR := Lib.hid (t1.blk (((R_at w _)).alloc _) (fun h => h))
  have HF := Lib.hid (((((Touch.refl _ w).alloc _).alloc _).alloc _ : Fresh w _).trans t1 (fun _ _ h => h))
  have HS := Lib.hid s1
  clear s1 t1
  obtain ⟨gb, hgb⟩ : ∃ gb, gb = w.heap.size := ⟨_, rfl⟩
  rw [← hgb] at HRR ⊢
  have HGB := Lib.hid hgb
  have hgw : gb + 1 < w1.heap.size := HRR.out.lt
  clear hgb
  have hr0 : w1.cell? ⟨gb + 1, 0, none⟩ = some (.slice none 0 0) := HRR.out.cell 0
  have hr1 : w1.cell? ⟨gb + 1, 1, none⟩ = some (.slice none 0 0) := HRR.out.cell 1
  have hf0 := HRR.out.frozen 0
  have hf1 := HRR.out.frozen 1
  have HBf := Lib.hid ((HRR.out.set 0 (.slice Tk 5 ck)).set 1 (.slice A 5 c'))
  have hne : ∀ ad, A = some ad → ad.block ≠ gb + 1 := HS.out.blk_ne HRR.out (by decide)
  have HSf := Lib.hid ((HS.out.setCell (p := ⟨gb + 1, 0, none⟩) hne (.slice Tk 5 ck)).setCell (p := ⟨gb + 1, 1, none⟩) hne (.slice A 5 c'))
  have HFf : Hid (Fresh w ((w1.setCell ⟨gb + 1, 0, none⟩ (.slice Tk 5 ck)).setCell ⟨gb + 1, 1, none⟩ (.slice A 5 c'))) :=
    (HF.out.setCell (fun h => by have := HGB.out; simp at h; omega) _).setCell (fun h => by have := HGB.out; simp at h; omega) _
  clear HS HF HRR hne
  go_wp2
  generalize ((w1.setCell ⟨gb + 1, 0, none⟩ (.slice Tk 5 ck)).setCell ⟨gb + 1, 1, none⟩ (.slice A 5 c')) = wf at *
  have e0 : wf.cell? ⟨gb + 1, 0, none⟩ = some (.slice Tk 5 ck) := HBf.out.cell 0
  have e1 : wf.cell? ⟨gb + 1, 1, none⟩ = some (.slice A 5 c') := HBf.out.cell 1
  exact bodyPost_ret (v := .agg #[.slice Tk 5 ck, .slice A 5 c']) (by simp [results, Tryz.results194, go_sem, e0, e1]) rfl ⟨A, c', rfl, HSf.out, HFf.out⟩
end
end Go.Proofs.YtipaobpmojahaaaGreat

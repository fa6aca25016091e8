/-
  polliwoglaw06.Few: numbers from 0 on, at most 140 of them, short data.
-/
import Derived.Test.YtpifgpmjnjbecaaDoorOwn6
import Derived.Test.YtpifgpmjnjbecaaDoorDet
import Derived.Test.YtpifgpmjnjbecaaDoorMine
import Derived.Deep.RegionLaw
namespace Go.Proofs.YtpifgpmjnjbecaaDoor
open Go.RowKit

def rC (p : Wh.P) (A : Option Addr) (c : Nat) : List Value := [.int .i64 p.kind, .int .i64 p.sq, .int .i64 p.n, .int .i64 p.ps, .int .i64 p.mr, .slice A p.l.length c, .bool p.self, .string p.data]
theorem cell_same {w w' : World} (h : w'.heap = w.heap) (a : Addr) (hs : a.spot = none) : w'.cell? a = w.cell? a := by
  obtain ⟨b, o, s⟩ := a
  obtain rfl : s = none := hs
  simp [World.cell?, h]

def fslot (i : Nat) : Nat := [6, 7, 8, 9, 10, 11, 12, 13, 14, 15, 16, 17, 18, 19, 20, 21, 1016, 22, 1018, 23, 1020, 24, 1022].getD i 2000
def fidx (k : Nat) : Nat := [0, 0, 0, 0, 0, 0, 0, 1, 2, 3, 4, 5, 6, 7, 8, 9, 10, 11, 12, 13, 14, 15, 17, 19, 21].getD k 0
def fval (b : Nat) (n ps mr : Int) (data : ByteArray) (i : Nat) : Value := [.func (Fn.func 18) #[] #[], .pointer (some ⟨b, 2, none⟩), .int .i64 n, .int .i64 (Wh.cl n), .func (Fn.func 18) #[] #[], .pointer (some ⟨b, 3, none⟩), .int .i64 ps, .int .i64 (Wh.cl ps), .func (Fn.func 18) #[] #[], .pointer (some ⟨b, 4, none⟩), .int .i64 mr, .int .i64 (Wh.cl mr), .pointer (some ⟨b, 7, none⟩), .string data, .string (Wh.cut data), .pointer (some ⟨b, 2, none⟩), undef, .pointer (some ⟨b, 3, none⟩), undef, .pointer (some ⟨b, 4, none⟩), undef, .pointer (some ⟨b, 7, none⟩), undef].getD i undef
def fD : List Nat := [6, 7, 8, 9, 10, 11, 12, 13, 14, 15, 16, 17, 18, 19, 20, 21, 22, 23, 24]
def fW (w1 : World) (b : Nat) (n ps mr : Int) (data : ByteArray) (d : Nat → Bool) : World :=
  cond (d 22) ((((w1.drew.setCell ⟨b, 2, none⟩ (.int .i64 (Wh.cl n))).setCell ⟨b, 3, none⟩ (.int .i64 (Wh.cl ps))).setCell ⟨b, 4, none⟩ (.int .i64 (Wh.cl mr))).setCell ⟨b, 7, none⟩ (.string (Wh.cut data)))
    (cond (d 20) (((w1.drew.setCell ⟨b, 2, none⟩ (.int .i64 (Wh.cl n))).setCell ⟨b, 3, none⟩ (.int .i64 (Wh.cl ps))).setCell ⟨b, 4, none⟩ (.int .i64 (Wh.cl mr)))
      (cond (d 18) ((w1.drew.setCell ⟨b, 2, none⟩ (.int .i64 (Wh.cl n))).setCell ⟨b, 3, none⟩ (.int .i64 (Wh.cl ps)))
        (cond (d 16) (w1.drew.setCell ⟨b, 2, none⟩ (.int .i64 (Wh.cl n))) w1.drew)))

theorem mine_far2 {α : Type} {E : El α} {w wx wy : World} {A : Option Addr} {c : Nat} {L : List α} {g : Nat} {t : TypeId} {cs : List Value} (m : Mine E w wx A c L) (ht : Touch (fun k => A.map Addr.block = some k) wx wy) (hb : Blk wx g t cs) (hne : E.e ≠ t) : Blk wy g t cs := by
  refine ht.blk hb (fun h => ?_)
  cases A with
  | none => cases h
  | some ad =>
    injection h with h
    exact m.sl.blk_ne hb hne ad rfl h

set_option maxRecDepth 10000 in
set_option maxHeartbeats 4000000 in
theorem few6_any (p : Wh.P) (A : Option Addr) (c : Nat) (w : World) (hr : Rd intE w A c p.l) (hd : p.data.size ≤ 9223372036854775807)
    (hw : ∀ x ∈ [p.n, p.ps, p.mr], -9223372036854775808 ≤ x ∧ x ≤ 9223372036854775807) (hwl : ∀ x ∈ p.l, -9223372036854775808 ≤ x ∧ x ≤ 9223372036854775807) :
    Calls Tryd.prog 7 #[rV p A c] w fun e w' => ∃ A' c', e = .returned (rV (Wh.few p) A' c') ∧ Mine intE w w' A' c' (Wh.few p).l := by
  have hm := hr.1
  have hm2 := hr.2.1
  unfold maxLen at hm2
  have hn := hw p.n (by simp)
  have hps := hw p.ps (by simp)
  have hmr := hw p.mr (by simp)
  have HWL := Lib.hid hwl
  have HR := Lib.hid hr
  clear hr hw hwl
  have HE : Hid (Wh.few p = ⟨p.kind, p.sq, Wh.cl p.n, Wh.cl p.ps, Wh.cl p.mr, (p.l.take 140).map Wh.cl, p.self, Wh.cut p.data⟩) := rfl
  rw [HE.out]
  clear HE
  obtain ⟨kind, sq, n, ps, mr, l, self, data⟩ := p
  unfold rV
  simp only at hm hm2 hd hn hps hmr HWL HR ⊢
  obtain ⟨hn0, hn1⟩ := hn
  obtain ⟨hp0, hp1⟩ := hps
  obtain ⟨hm0, hm1⟩ := hmr
  have HIN : Hid (∀ x W, -9223372036854775808 ≤ x → x ≤ 9223372036854775807 → Calls Tryd.prog 18 #[.int .i64 x] W fun e w' => e = .returned (.int .i64 (Wh.cl x)) ∧ W = w') := in6_any
  have HCT : Hid (∀ W, Calls Tryd.prog 19 #[.string data, .int .i64 210] W fun e w' => e = .returned (.string (Wh.cut data)) ∧ W = w') := fun W => cut6_any data W hd
  have HB : Hid (Blk ((w.alloc (.cells #[.int .i64 kind, .int .i64 sq, .int .i64 n, .int .i64 ps, .int .i64 mr, .slice A l.length c, .bool self, .string data] 36)).alloc (.cells #[.int .i64 0, .int .i64 0, .int .i64 0, .int .i64 0, .int .i64 0, .slice none 0 0, .bool false, .string ⟨#[]⟩] 36)) w.heap.size 36 [.int .i64 kind, .int .i64 sq, .int .i64 n, .int .i64 ps, .int .i64 mr, .slice A l.length c, .bool self, .string data]) := (Blk.new _ _ _).alloc _
  have HZ : Hid (Blk ((w.alloc (.cells #[.int .i64 kind, .int .i64 sq, .int .i64 n, .int .i64 ps, .int .i64 mr, .slice A l.length c, .bool self, .string data] 36)).alloc (.cells #[.int .i64 0, .int .i64 0, .int .i64 0, .int .i64 0, .int .i64 0, .slice none 0 0, .bool false, .string ⟨#[]⟩] 36)) (w.heap.size + 1) 36 [.int .i64 0, .int .i64 0, .int .i64 0, .int .i64 0, .int .i64 0, .slice none 0 0, .bool false, .string ⟨#[]⟩]) := by
    have := Blk.new (w.alloc (.cells #[.int .i64 kind, .int .i64 sq, .int .i64 n, .int .i64 ps, .int .i64 mr, .slice A l.length c, .bool self, .string data] 36)) 36 [.int .i64 0, .int .i64 0, .int .i64 0, .int .i64 0, .int .i64 0, .slice none 0 0, .bool false, .string ⟨#[]⟩]
    rw [show (w.alloc (.cells #[.int .i64 kind, .int .i64 sq, .int .i64 n, .int .i64 ps, .int .i64 mr, .slice A l.length c, .bool self, .string data] 36)).heap.size = w.heap.size + 1 by simp] at this
    exact this
  have HF : Hid (Fresh w ((w.alloc (.cells #[.int .i64 kind, .int .i64 sq, .int .i64 n, .int .i64 ps, .int .i64 mr, .slice A l.length c, .bool self, .string data] 36)).alloc (.cells #[.int .i64 0, .int .i64 0, .int .i64 0, .int .i64 0, .int .i64 0, .slice none 0 0, .bool false, .string ⟨#[]⟩] 36))) := ((Touch.refl _ _).alloc _).alloc _
  go_enter Tryd.func7, Tryd.ntmps7
  go_upto_region 2 with (fail)
  generalize ((w.alloc (.cells #[.int .i64 kind, .int .i64 sq, .int .i64 n, .int .i64 ps, .int .i64 mr, .slice A l.length c, .bool self, .string data] 36)).alloc (.cells #[.int .i64 0, .int .i64 0, .int .i64 0, .int .i64 0, .int .i64 0, .slice none 0 0, .bool false, .string ⟨#[]⟩] 36)) = w1 at *
  obtain ⟨b, hb⟩ : ∃ b, b = w.heap.size := ⟨_, rfl⟩
  obtain ⟨rb, hrb⟩ : ∃ rb, rb = w.heap.size + 1 := ⟨_, rfl⟩
  rw [← hrb] at HZ ⊢
  rw [← hb] at HB ⊢
  have HNB : Hid (b = w.heap.size ∧ rb = w.heap.size + 1) := ⟨hb, hrb⟩
  clear hb hrb
  have d2 : w1.cell? ⟨b, 2, none⟩ = some (.int .i64 n) := HB.out.cell 2
  have d3 : w1.cell? ⟨b, 3, none⟩ = some (.int .i64 ps) := HB.out.cell 3
  have d4 : w1.cell? ⟨b, 4, none⟩ = some (.int .i64 mr) := HB.out.cell 4
  have d7 : w1.cell? ⟨b, 7, none⟩ = some (.string data) := HB.out.cell 7
  have z2 : w1.frozen? ⟨b, 2, none⟩ = false := HB.out.frozen 2
  have z3 : w1.frozen? ⟨b, 3, none⟩ = false := HB.out.frozen 3
  have z4 : w1.frozen? ⟨b, 4, none⟩ = false := HB.out.frozen 4
  have z7 : w1.frozen? ⟨b, 7, none⟩ = false := HB.out.frozen 7
  have HINJ : Hid (∀ i, i < 23 → ∀ j, j < 23 → fslot i = fslot j → i = j) := by
    show ∀ i, i < 23 → ∀ j, j < 23 → fslot i = fslot j → i = j
    decide
  have HFD : Hid (∀ k, k ∈ fD → fidx k < 23 ∧ fslot (fidx k) = k) := by
    show ∀ k, k ∈ fD → fidx k < 23 ∧ fslot (fidx k) = k
    decide
  go_cut [] (fun wx => Hid (wx = fW w1 b n ps mr data (fun _ => true)))
  case first =>
   as_aux_lemma =>
    refine Dag.det (by kernel_rfl) 23 fD fslot (fval b n ps mr data) (fun k => fval b n ps mr data (fidx k)) (fW w1 b n ps mr data) (by rfl) (fun i j hi hj => HINJ.out i hi j hj) (by decide +kernel) rfl (by decide +kernel)
      ⟨?_, ?_, ?_, ?_, ?_, ?_, ?_, ?_, ?_, ?_, ?_, ?_, ?_, ?_, ?_, ?_, ?_, ?_, ?_, ?_, ?_, ?_, ?_, trivial⟩ (fun d hd => by simp only [fW, hd 22 (by decide), cond_true]; rfl) (fun k hk => ⟨fidx k, (HFD.out k hk).1, (HFD.out k hk).2, rfl⟩) ?_
    · refine ⟨rfl, fun s hs => by cases hs <;> exact ⟨rfl, by decide⟩, ?_⟩
      intro d A8 hi hpre hcl hmd
      have e3 : A8.eval (.tmp 3) = (.func (Fn.func 18) #[] #[]) := hmd.old 3 (by decide)
      clear hmd hpre hcl hi
      show Dag.Out _ _ _ (fW w1 b n ps mr data d) (.func (Fn.func 18) #[] #[]) (fW w1 b n ps mr data d)
      generalize fW w1 b n ps mr data d = W
      refine .value 6 rfl ?_
      unfold execOp
      generalize A8.eval = ρ at *
      go_simp
    · refine ⟨rfl, fun s hs => by cases hs <;> exact ⟨rfl, by decide⟩, ?_⟩
      intro d A8 hi hpre hcl hmd
      have e1 : A8.eval (.tmp 1) = .pointer (some ⟨b, 0, none⟩) := hmd.old 1 (by decide)
      clear hmd hpre hcl hi
      show Dag.Out _ _ _ (fW w1 b n ps mr data d) (.pointer (some ⟨b, 2, none⟩)) (fW w1 b n ps mr data d)
      generalize fW w1 b n ps mr data d = W
      refine .value 7 rfl ?_
      unfold execOp
      generalize A8.eval = ρ at *
      go_simp
    · refine ⟨rfl, fun s hs => by cases hs <;> exact ⟨rfl, by decide⟩, ?_⟩
      intro d A8 hi hpre hcl hmd
      have h16 : d 16 = false := Bool.eq_false_iff.2 fun h => by have := hcl 16 2 (by decide +kernel) h; rw [hi] at this; cases this
      have h18 : d 18 = false := Bool.eq_false_iff.2 fun h => by have := hcl 18 16 (by decide +kernel) h; rw [h16] at this; cases this
      have h20 : d 20 = false := Bool.eq_false_iff.2 fun h => by have := hcl 20 18 (by decide +kernel) h; rw [h18] at this; cases this
      have h22 : d 22 = false := Bool.eq_false_iff.2 fun h => by have := hcl 22 20 (by decide +kernel) h; rw [h20] at this; cases this
      have hW : fW w1 b n ps mr data d = w1.drew := by simp only [fW, h16, h18, h20, h22, cond_false]
      have e7 : A8.eval (.tmp 7) = .pointer (some ⟨b, 2, none⟩) := hmd.got 1 (by decide) (hpre 1 (by decide +kernel)) (by decide) (by show (7 : Nat) < 49; decide)
      clear hmd hpre hcl hi
      show Dag.Out _ _ _ (fW w1 b n ps mr data d) (.int .i64 n) (fW w1 b n ps mr data d)
      rw [hW]
      refine .value 8 rfl ?_
      unfold execOp
      generalize A8.eval = ρ at *
      go_simp
    · refine ⟨rfl, fun s hs => by cases hs <;> exact ⟨rfl, by decide⟩, ?_⟩
      intro d A8 hi hpre hcl hmd
      have e6 : A8.eval (.tmp 6) = (.func (Fn.func 18) #[] #[]) := hmd.got 0 (by decide) (hpre 0 (by decide +kernel)) (by decide) (by show (6 : Nat) < 49; decide)
      have e8 : A8.eval (.tmp 8) = .int .i64 n := hmd.got 2 (by decide) (hpre 2 (by decide +kernel)) (by decide) (by show (8 : Nat) < 49; decide)
      clear hmd hpre hcl hi
      show Dag.Out _ _ _ (fW w1 b n ps mr data d) (.int .i64 (Wh.cl n)) (fW w1 b n ps mr data d)
      generalize fW w1 b n ps mr data d = W
      refine .call 9 rfl 18 #[.int .i64 n] ?_ ?_
      · unfold execOp
        generalize A8.eval = ρ at *
        go_simp
      · exact (HIN.out n _ hn0 hn1)
    · refine ⟨rfl, fun s hs => by cases hs <;> exact ⟨rfl, by decide⟩, ?_⟩
      intro d A8 hi hpre hcl hmd
      have e3 : A8.eval (.tmp 3) = (.func (Fn.func 18) #[] #[]) := hmd.old 3 (by decide)
      clear hmd hpre hcl hi
      show Dag.Out _ _ _ (fW w1 b n ps mr data d) (.func (Fn.func 18) #[] #[]) (fW w1 b n ps mr data d)
      generalize fW w1 b n ps mr data d = W
      refine .value 10 rfl ?_
      unfold execOp
      generalize A8.eval = ρ at *
      go_simp
    · refine ⟨rfl, fun s hs => by cases hs <;> exact ⟨rfl, by decide⟩, ?_⟩
      intro d A8 hi hpre hcl hmd
      have e1 : A8.eval (.tmp 1) = .pointer (some ⟨b, 0, none⟩) := hmd.old 1 (by decide)
      clear hmd hpre hcl hi
      show Dag.Out _ _ _ (fW w1 b n ps mr data d) (.pointer (some ⟨b, 3, none⟩)) (fW w1 b n ps mr data d)
      generalize fW w1 b n ps mr data d = W
      refine .value 11 rfl ?_
      unfold execOp
      generalize A8.eval = ρ at *
      go_simp
    · refine ⟨rfl, fun s hs => by cases hs <;> exact ⟨rfl, by decide⟩, ?_⟩
      intro d A8 hi hpre hcl hmd
      have h16 : d 16 = false := Bool.eq_false_iff.2 fun h => by have := hcl 16 6 (by decide +kernel) h; rw [hi] at this; cases this
      have h18 : d 18 = false := Bool.eq_false_iff.2 fun h => by have := hcl 18 16 (by decide +kernel) h; rw [h16] at this; cases this
      have h20 : d 20 = false := Bool.eq_false_iff.2 fun h => by have := hcl 20 18 (by decide +kernel) h; rw [h18] at this; cases this
      have h22 : d 22 = false := Bool.eq_false_iff.2 fun h => by have := hcl 22 20 (by decide +kernel) h; rw [h20] at this; cases this
      have hW : fW w1 b n ps mr data d = w1.drew := by simp only [fW, h16, h18, h20, h22, cond_false]
      have e7 : A8.eval (.tmp 11) = .pointer (some ⟨b, 3, none⟩) := hmd.got 5 (by decide) (hpre 5 (by decide +kernel)) (by decide) (by show (11 : Nat) < 49; decide)
      clear hmd hpre hcl hi
      show Dag.Out _ _ _ (fW w1 b n ps mr data d) (.int .i64 ps) (fW w1 b n ps mr data d)
      rw [hW]
      refine .value 12 rfl ?_
      unfold execOp
      generalize A8.eval = ρ at *
      go_simp
    · refine ⟨rfl, fun s hs => by cases hs <;> exact ⟨rfl, by decide⟩, ?_⟩
      intro d A8 hi hpre hcl hmd
      have e6 : A8.eval (.tmp 10) = (.func (Fn.func 18) #[] #[]) := hmd.got 4 (by decide) (hpre 4 (by decide +kernel)) (by decide) (by show (10 : Nat) < 49; decide)
      have e8 : A8.eval (.tmp 12) = .int .i64 ps := hmd.got 6 (by decide) (hpre 6 (by decide +kernel)) (by decide) (by show (12 : Nat) < 49; decide)
      clear hmd hpre hcl hi
      show Dag.Out _ _ _ (fW w1 b n ps mr data d) (.int .i64 (Wh.cl ps)) (fW w1 b n ps mr data d)
      generalize fW w1 b n ps mr data d = W
      refine .call 13 rfl 18 #[.int .i64 ps] ?_ ?_
      · unfold execOp
        generalize A8.eval = ρ at *
        go_simp
      · exact (HIN.out ps _ hp0 hp1)
    · refine ⟨rfl, fun s hs => by cases hs <;> exact ⟨rfl, by decide⟩, ?_⟩
      intro d A8 hi hpre hcl hmd
      have e3 : A8.eval (.tmp 3) = (.func (Fn.func 18) #[] #[]) := hmd.old 3 (by decide)
      clear hmd hpre hcl hi
      show Dag.Out _ _ _ (fW w1 b n ps mr data d) (.func (Fn.func 18) #[] #[]) (fW w1 b n ps mr data d)
      generalize fW w1 b n ps mr data d = W
      refine .value 14 rfl ?_
      unfold execOp
      generalize A8.eval = ρ at *
      go_simp
    · refine ⟨rfl, fun s hs => by cases hs <;> exact ⟨rfl, by decide⟩, ?_⟩
      intro d A8 hi hpre hcl hmd
      have e1 : A8.eval (.tmp 1) = .pointer (some ⟨b, 0, none⟩) := hmd.old 1 (by decide)
      clear hmd hpre hcl hi
      show Dag.Out _ _ _ (fW w1 b n ps mr data d) (.pointer (some ⟨b, 4, none⟩)) (fW w1 b n ps mr data d)
      generalize fW w1 b n ps mr data d = W
      refine .value 15 rfl ?_
      unfold execOp
      generalize A8.eval = ρ at *
      go_simp
    · refine ⟨rfl, fun s hs => by cases hs <;> exact ⟨rfl, by decide⟩, ?_⟩
      intro d A8 hi hpre hcl hmd
      have h16 : d 16 = false := Bool.eq_false_iff.2 fun h => by have := hcl 16 10 (by decide +kernel) h; rw [hi] at this; cases this
      have h18 : d 18 = false := Bool.eq_false_iff.2 fun h => by have := hcl 18 16 (by decide +kernel) h; rw [h16] at this; cases this
      have h20 : d 20 = false := Bool.eq_false_iff.2 fun h => by have := hcl 20 18 (by decide +kernel) h; rw [h18] at this; cases this
      have h22 : d 22 = false := Bool.eq_false_iff.2 fun h => by have := hcl 22 20 (by decide +kernel) h; rw [h20] at this; cases this
      have hW : fW w1 b n ps mr data d = w1.drew := by simp only [fW, h16, h18, h20, h22, cond_false]
      have e7 : A8.eval (.tmp 15) = .pointer (some ⟨b, 4, none⟩) := hmd.got 9 (by decide) (hpre 9 (by decide +kernel)) (by decide) (by show (15 : Nat) < 49; decide)
      clear hmd hpre hcl hi
      show Dag.Out _ _ _ (fW w1 b n ps mr data d) (.int .i64 mr) (fW w1 b n ps mr data d)
      rw [hW]
      refine .value 16 rfl ?_
      unfold execOp
      generalize A8.eval = ρ at *
      go_simp
    · refine ⟨rfl, fun s hs => by cases hs <;> exact ⟨rfl, by decide⟩, ?_⟩
      intro d A8 hi hpre hcl hmd
      have e6 : A8.eval (.tmp 14) = (.func (Fn.func 18) #[] #[]) := hmd.got 8 (by decide) (hpre 8 (by decide +kernel)) (by decide) (by show (14 : Nat) < 49; decide)
      have e8 : A8.eval (.tmp 16) = .int .i64 mr := hmd.got 10 (by decide) (hpre 10 (by decide +kernel)) (by decide) (by show (16 : Nat) < 49; decide)
      clear hmd hpre hcl hi
      show Dag.Out _ _ _ (fW w1 b n ps mr data d) (.int .i64 (Wh.cl mr)) (fW w1 b n ps mr data d)
      generalize fW w1 b n ps mr data d = W
      refine .call 17 rfl 18 #[.int .i64 mr] ?_ ?_
      · unfold execOp
        generalize A8.eval = ρ at *
        go_simp
      · exact (HIN.out mr _ hm0 hm1)
    · refine ⟨rfl, fun s hs => by cases hs <;> exact ⟨rfl, by decide⟩, ?_⟩
      intro d A8 hi hpre hcl hmd
      have e1 : A8.eval (.tmp 1) = .pointer (some ⟨b, 0, none⟩) := hmd.old 1 (by decide)
      clear hmd hpre hcl hi
      show Dag.Out _ _ _ (fW w1 b n ps mr data d) (.pointer (some ⟨b, 7, none⟩)) (fW w1 b n ps mr data d)
      generalize fW w1 b n ps mr data d = W
      refine .value 18 rfl ?_
      unfold execOp
      generalize A8.eval = ρ at *
      go_simp
    · refine ⟨rfl, fun s hs => by cases hs <;> exact ⟨rfl, by decide⟩, ?_⟩
      intro d A8 hi hpre hcl hmd
      have h16 : d 16 = false := Bool.eq_false_iff.2 fun h => by have := hcl 16 13 (by decide +kernel) h; rw [hi] at this; cases this
      have h18 : d 18 = false := Bool.eq_false_iff.2 fun h => by have := hcl 18 16 (by decide +kernel) h; rw [h16] at this; cases this
      have h20 : d 20 = false := Bool.eq_false_iff.2 fun h => by have := hcl 20 18 (by decide +kernel) h; rw [h18] at this; cases this
      have h22 : d 22 = false := Bool.eq_false_iff.2 fun h => by have := hcl 22 20 (by decide +kernel) h; rw [h20] at this; cases this
      have hW : fW w1 b n ps mr data d = w1.drew := by simp only [fW, h16, h18, h20, h22, cond_false]
      have e7 : A8.eval (.tmp 18) = .pointer (some ⟨b, 7, none⟩) := hmd.got 12 (by decide) (hpre 12 (by decide +kernel)) (by decide) (by show (18 : Nat) < 49; decide)
      clear hmd hpre hcl hi
      show Dag.Out _ _ _ (fW w1 b n ps mr data d) (.string data) (fW w1 b n ps mr data d)
      rw [hW]
      refine .value 19 rfl ?_
      unfold execOp
      generalize A8.eval = ρ at *
      go_simp
    · refine ⟨rfl, fun s hs => by cases hs <;> exact ⟨rfl, by decide⟩, ?_⟩
      intro d A8 hi hpre hcl hmd
      have e8 : A8.eval (.tmp 19) = .string data := hmd.got 13 (by decide) (hpre 13 (by decide +kernel)) (by decide) (by show (19 : Nat) < 49; decide)
      have e9 : A8.eval (.func 19) = .func (Fn.func 19) #[] #[] := hmd.cst _ (fun k h => by cases h)
      have e10 : A8.eval (.const (.int .i64 210)) = .int .i64 210 := hmd.cst _ (fun k h => by cases h)
      clear hmd hpre hcl hi
      show Dag.Out _ _ _ (fW w1 b n ps mr data d) (.string (Wh.cut data)) (fW w1 b n ps mr data d)
      generalize fW w1 b n ps mr data d = W
      refine .call 20 rfl 19 #[.string data, .int .i64 210] ?_ ?_
      · unfold execOp
        generalize A8.eval = ρ at *
        go_simp
      · exact (HCT.out _)
    · refine ⟨rfl, fun s hs => by cases hs <;> exact ⟨rfl, by decide⟩, ?_⟩
      intro d A8 hi hpre hcl hmd
      have e1 : A8.eval (.tmp 1) = .pointer (some ⟨b, 0, none⟩) := hmd.old 1 (by decide)
      clear hmd hpre hcl hi
      show Dag.Out _ _ _ (fW w1 b n ps mr data d) (.pointer (some ⟨b, 2, none⟩)) (fW w1 b n ps mr data d)
      generalize fW w1 b n ps mr data d = W
      refine .value 21 rfl ?_
      unfold execOp
      generalize A8.eval = ρ at *
      go_simp
    · refine ⟨rfl, (fun s hs => by cases hs), ?_⟩
      intro d A8 hi hpre hcl hmd
      have ea : A8.eval (.tmp 21) = .pointer (some ⟨b, 2, none⟩) := hmd.got 15 (by decide) (hpre 15 (by decide +kernel)) (by decide) (by show (21 : Nat) < 49; decide)
      have ev : A8.eval (.tmp 9) = .int .i64 (Wh.cl n) := hmd.got 3 (by decide) (hpre 3 (by decide +kernel)) (by decide) (by show (9 : Nat) < 49; decide)
      have h16 : d 16 = false := hi
      have h18 : d 18 = false := Bool.eq_false_iff.2 fun h => by have := hcl 18 16 (by decide +kernel) h; rw [h16] at this; cases this
      have h20 : d 20 = false := Bool.eq_false_iff.2 fun h => by have := hcl 20 18 (by decide +kernel) h; rw [h18] at this; cases this
      have h22 : d 22 = false := Bool.eq_false_iff.2 fun h => by have := hcl 22 20 (by decide +kernel) h; rw [h20] at this; cases this
      have hW : fW w1 b n ps mr data d = w1.drew := by simp only [fW, h16, h18, h20, h22, cond_false, cond_true]
      have hV : fW w1 b n ps mr data (Dag.upd d 16 true) = (w1.drew.setCell ⟨b, 2, none⟩ (.int .i64 (Wh.cl n))) := by simp [fW, Dag.upd, h16, h18, h20, h22]
      rw [hW, hV]
      clear hW hV h16 h18 h20 h22
      show Dag.Out _ _ _ _ undef _
      clear hmd hpre hcl hi
      refine .skip rfl ?_
      unfold execOp
      generalize A8.eval = ρ at *
      go_simp
    · refine ⟨rfl, fun s hs => by cases hs <;> exact ⟨rfl, by decide⟩, ?_⟩
      intro d A8 hi hpre hcl hmd
      have e1 : A8.eval (.tmp 1) = .pointer (some ⟨b, 0, none⟩) := hmd.old 1 (by decide)
      clear hmd hpre hcl hi
      show Dag.Out _ _ _ (fW w1 b n ps mr data d) (.pointer (some ⟨b, 3, none⟩)) (fW w1 b n ps mr data d)
      generalize fW w1 b n ps mr data d = W
      refine .value 22 rfl ?_
      unfold execOp
      generalize A8.eval = ρ at *
      go_simp
    · refine ⟨rfl, (fun s hs => by cases hs), ?_⟩
      intro d A8 hi hpre hcl hmd
      have ea : A8.eval (.tmp 22) = .pointer (some ⟨b, 3, none⟩) := hmd.got 17 (by decide) (hpre 17 (by decide +kernel)) (by decide) (by show (22 : Nat) < 49; decide)
      have ev : A8.eval (.tmp 13) = .int .i64 (Wh.cl ps) := hmd.got 7 (by decide) (hpre 7 (by decide +kernel)) (by decide) (by show (13 : Nat) < 49; decide)
      have h16 : d 16 = true := hpre 16 (by decide +kernel)
      have h18 : d 18 = false := hi
      have h20 : d 20 = false := Bool.eq_false_iff.2 fun h => by have := hcl 20 18 (by decide +kernel) h; rw [h18] at this; cases this
      have h22 : d 22 = false := Bool.eq_false_iff.2 fun h => by have := hcl 22 20 (by decide +kernel) h; rw [h20] at this; cases this
      have hW : fW w1 b n ps mr data d = (w1.drew.setCell ⟨b, 2, none⟩ (.int .i64 (Wh.cl n))) := by simp only [fW, h16, h18, h20, h22, cond_false, cond_true]
      have hV : fW w1 b n ps mr data (Dag.upd d 18 true) = ((w1.drew.setCell ⟨b, 2, none⟩ (.int .i64 (Wh.cl n))).setCell ⟨b, 3, none⟩ (.int .i64 (Wh.cl ps))) := by simp [fW, Dag.upd, h16, h18, h20, h22]
      rw [hW, hV]
      clear hW hV h16 h18 h20 h22
      show Dag.Out _ _ _ _ undef _
      clear hmd hpre hcl hi
      refine .skip rfl ?_
      unfold execOp
      generalize A8.eval = ρ at *
      go_simp
    · refine ⟨rfl, fun s hs => by cases hs <;> exact ⟨rfl, by decide⟩, ?_⟩
      intro d A8 hi hpre hcl hmd
      have e1 : A8.eval (.tmp 1) = .pointer (some ⟨b, 0, none⟩) := hmd.old 1 (by decide)
      clear hmd hpre hcl hi
      show Dag.Out _ _ _ (fW w1 b n ps mr data d) (.pointer (some ⟨b, 4, none⟩)) (fW w1 b n ps mr data d)
      generalize fW w1 b n ps mr data d = W
      refine .value 23 rfl ?_
      unfold execOp
      generalize A8.eval = ρ at *
      go_simp
    · refine ⟨rfl, (fun s hs => by cases hs), ?_⟩
      intro d A8 hi hpre hcl hmd
      have ea : A8.eval (.tmp 23) = .pointer (some ⟨b, 4, none⟩) := hmd.got 19 (by decide) (hpre 19 (by decide +kernel)) (by decide) (by show (23 : Nat) < 49; decide)
      have ev : A8.eval (.tmp 17) = .int .i64 (Wh.cl mr) := hmd.got 11 (by decide) (hpre 11 (by decide +kernel)) (by decide) (by show (17 : Nat) < 49; decide)
      have h18 : d 18 = true := hpre 18 (by decide +kernel)
      have h16 : d 16 = true := hcl 18 16 (by decide +kernel) h18
      have h20 : d 20 = false := hi
      have h22 : d 22 = false := Bool.eq_false_iff.2 fun h => by have := hcl 22 20 (by decide +kernel) h; rw [h20] at this; cases this
      have hW : fW w1 b n ps mr data d = ((w1.drew.setCell ⟨b, 2, none⟩ (.int .i64 (Wh.cl n))).setCell ⟨b, 3, none⟩ (.int .i64 (Wh.cl ps))) := by simp only [fW, h16, h18, h20, h22, cond_false, cond_true]
      have hV : fW w1 b n ps mr data (Dag.upd d 20 true) = (((w1.drew.setCell ⟨b, 2, none⟩ (.int .i64 (Wh.cl n))).setCell ⟨b, 3, none⟩ (.int .i64 (Wh.cl ps))).setCell ⟨b, 4, none⟩ (.int .i64 (Wh.cl mr))) := by simp [fW, Dag.upd, h16, h18, h20, h22]
      rw [hW, hV]
      clear hW hV h16 h18 h20 h22
      show Dag.Out _ _ _ _ undef _
      clear hmd hpre hcl hi
      refine .skip rfl ?_
      unfold execOp
      generalize A8.eval = ρ at *
      go_simp
    · refine ⟨rfl, fun s hs => by cases hs <;> exact ⟨rfl, by decide⟩, ?_⟩
      intro d A8 hi hpre hcl hmd
      have e1 : A8.eval (.tmp 1) = .pointer (some ⟨b, 0, none⟩) := hmd.old 1 (by decide)
      clear hmd hpre hcl hi
      show Dag.Out _ _ _ (fW w1 b n ps mr data d) (.pointer (some ⟨b, 7, none⟩)) (fW w1 b n ps mr data d)
      generalize fW w1 b n ps mr data d = W
      refine .value 24 rfl ?_
      unfold execOp
      generalize A8.eval = ρ at *
      go_simp
    · refine ⟨rfl, (fun s hs => by cases hs), ?_⟩
      intro d A8 hi hpre hcl hmd
      have ea : A8.eval (.tmp 24) = .pointer (some ⟨b, 7, none⟩) := hmd.got 21 (by decide) (hpre 21 (by decide +kernel)) (by decide) (by show (24 : Nat) < 49; decide)
      have ev : A8.eval (.tmp 20) = .string (Wh.cut data) := hmd.got 14 (by decide) (hpre 14 (by decide +kernel)) (by decide) (by show (20 : Nat) < 49; decide)
      have h20 : d 20 = true := hpre 20 (by decide +kernel)
      have h18 : d 18 = true := hcl 20 18 (by decide +kernel) h20
      have h16 : d 16 = true := hcl 18 16 (by decide +kernel) h18
      have h22 : d 22 = false := hi
      have hW : fW w1 b n ps mr data d = (((w1.drew.setCell ⟨b, 2, none⟩ (.int .i64 (Wh.cl n))).setCell ⟨b, 3, none⟩ (.int .i64 (Wh.cl ps))).setCell ⟨b, 4, none⟩ (.int .i64 (Wh.cl mr))) := by simp only [fW, h16, h18, h20, h22, cond_false, cond_true]
      have hV : fW w1 b n ps mr data (Dag.upd d 22 true) = ((((w1.drew.setCell ⟨b, 2, none⟩ (.int .i64 (Wh.cl n))).setCell ⟨b, 3, none⟩ (.int .i64 (Wh.cl ps))).setCell ⟨b, 4, none⟩ (.int .i64 (Wh.cl mr))).setCell ⟨b, 7, none⟩ (.string (Wh.cut data))) := by simp [fW, Dag.upd, h16, h18, h20, h22]
      rw [hW, hV]
      clear hW hV h16 h18 h20 h22
      show Dag.Out _ _ _ _ undef _
      clear hmd hpre hcl hi
      refine .skip rfl ?_
      unfold execOp
      generalize A8.eval = ρ at *
      go_simp
    · simp only [fD, Dag.actOf, List.foldl_cons, List.foldl_nil, fval, fidx]
      go_simp
      rename_i h1 h2
      refine h2 _ _ (Met.intro (h1 _ _ ?_))
      repeat apply Exists.intro
      refine ⟨?rel, rfl⟩
      case rel => rfl
  case rest =>
    have HBc : Hid (Blk wc b 36 [.int .i64 kind, .int .i64 sq, .int .i64 (Wh.cl n), .int .i64 (Wh.cl ps), .int .i64 (Wh.cl mr), .slice A l.length c, .bool self, .string (Wh.cut data)]) := by
      show Blk _ _ _ _
      rw [hcut.out]
      exact (((HB.out.drew.set 2 (.int .i64 (Wh.cl n))).set 3 (.int .i64 (Wh.cl ps))).set 4 (.int .i64 (Wh.cl mr))).set 7 (.string (Wh.cut data))
    have HZc : Hid (Blk wc rb 36 [.int .i64 0, .int .i64 0, .int .i64 0, .int .i64 0, .int .i64 0, .slice none 0 0, .bool false, .string ⟨#[]⟩]) := by
      have hne : rb ≠ b := by have := HNB.out; omega
      show Blk _ _ _ _
      rw [hcut.out]
      exact (((HZ.out.drew.far (p := ⟨b, 2, none⟩) hne _).far (p := ⟨b, 3, none⟩) hne _).far (p := ⟨b, 4, none⟩) hne _).far (p := ⟨b, 7, none⟩) hne _
    have HFc : Hid (Fresh w wc) := by
      have hb' : ∀ x : Addr, x.block = b → (x.block < w.heap.size → False) := fun x e h => by have := HNB.out; omega
      show Fresh _ _
      rw [hcut.out]
      exact (((HF.out.drew.setCell (p := ⟨b, 2, none⟩) (hb' _ rfl) _).setCell (p := ⟨b, 3, none⟩) (hb' _ rfl) _).setCell (p := ⟨b, 4, none⟩) (hb' _ rfl) _).setCell (p := ⟨b, 7, none⟩) (hb' _ rfl) _
    clear hcut HB HZ HF d2 d3 d4 d7 z2 z3 z4 z7 HINJ HFD HCT
    go_upto_region 3 with (fail)
    go_wp2_with fail
    go_loopw [4, 5] (fun v i wx => ∃ (k : Nat) (A' : Option Addr) (c' : Nat) (L : List Int), k ≤ l.length ∧ k ≤ 140 ∧ i = .int .i64 k ∧ v = .slice A' L.length c' ∧ Hid (L = (l.take k).map Wh.cl) ∧ Hid (Blk wx b 36 [.int .i64 kind, .int .i64 sq, .int .i64 (Wh.cl n), .int .i64 (Wh.cl ps), .int .i64 (Wh.cl mr), .slice A l.length c, .bool self, .string (Wh.cut data)]) ∧ Hid (Blk wx rb 36 [.int .i64 0, .int .i64 0, .int .i64 0, .int .i64 0, .int .i64 0, .slice none 0 0, .bool false, .string ⟨#[]⟩]) ∧ Hid (Mine intE w wx A' c' L)) (fun _ i _ => l.length - (intOf i).toNat)
    case atStart => exact ⟨0, none, 0, [], Nat.zero_le _, Nat.zero_le _, rfl, rfl, rfl, HBc, HZc, ⟨Sl.nil _ _, HFc.out, fun _ h => nomatch h⟩⟩
    case round =>
      clear HBc HZc HFc
      obtain ⟨k, A2, c2, L2, hk, hk2, rfl, rfl, HL2, HB2, HZ2, HM⟩ := hrel
      have c5 : wr.cell? ⟨b, 5, none⟩ = some (.slice A l.length c) := HB2.out.cell 5
      by_cases hlt : k < l.length ∧ k < 140
      · as_aux_lemma =>
        have ht1 : decide ((k : Int) < (l.length : Int)) = true := decide_eq_true (by omega)
        have ht2 : decide ((k : Int) < 140) = true := decide_eq_true (by omega)
        obtain ⟨gb, o, hA, hgb, hcl⟩ := (HM.out.keepsR HR.out).int_at k hlt.1
        have hx := HWL.out (l.getD k 0) (by rw [show l.getD k 0 = l[k] by simp [List.getD, List.getElem?_eq_getElem hlt.1]]; exact List.getElem_mem hlt.1)
        have HLK : Hid ((l.take (k + 1)).map Wh.cl = L2 ++ [Wh.cl (l.getD k 0)]) := by
          show _ = _
          rw [HL2.out, List.take_succ_eq_append_getElem hlt.1, List.map_append, List.map_cons, List.map_nil, show l.getD k 0 = l[k] by simp [List.getD, List.getElem?_eq_getElem hlt.1]]
        have h2l : L2.length ≤ 200 := by rw [HL2.out]; simp; omega
        subst hA
        obtain ⟨x, hxe⟩ : ∃ x, x = l.getD k 0 := ⟨_, rfl⟩
        rw [← hxe] at hcl hx HLK
        clear hxe HL2
        obtain ⟨hx0, hx1⟩ := hx
        have HNX : Hid (∀ W, Calls Tryd.prog 18 #[.int .i64 x] W fun e w' => e = .returned (.int .i64 (Wh.cl x)) ∧ W = w') := fun W => in6_any x W hx0 hx1
        have HMA : Hid (Mine intE w (wr.alloc (.cells #[.int .i64 (Wh.cl x)] 3)) A2 c2 L2) := HM.out.alloc _
        have HBA : Hid (Blk (wr.alloc (.cells #[.int .i64 (Wh.cl x)] 3)) b 36 [.int .i64 kind, .int .i64 sq, .int .i64 (Wh.cl n), .int .i64 (Wh.cl ps), .int .i64 (Wh.cl mr), .slice (some ⟨gb, o, none⟩) l.length c, .bool self, .string (Wh.cut data)]) := HB2.out.alloc _
        have HZA : Hid (Blk (wr.alloc (.cells #[.int .i64 (Wh.cl x)] 3)) rb 36 [.int .i64 0, .int .i64 0, .int .i64 0, .int .i64 0, .int .i64 0, .slice none 0 0, .bool false, .string ⟨#[]⟩]) := HZ2.out.alloc _
        have HRD : Hid (Rd intE (wr.alloc (.cells #[.int .i64 (Wh.cl x)] 3)) (some ⟨wr.heap.size, 0, none⟩) 1 [Wh.cl x]) := (Sl.lit intE wr _ rfl #[.int .i64 (Wh.cl x)] [Wh.cl x] rfl 1 rfl (by unfold maxLen; omega)).rd
        clear HM HB2 HZ2
        go_wp2_with (first
          | (go_at_call 18; refine (HNX.out _).mono ?_; rintro e w8 ⟨rfl, rfl⟩)
          | (at_builtin; refine app_int rfl rfl (l := L2) (l2 := [Wh.cl x]) rfl rfl HMA.out.sl HRD.out (by simp; omega) ?_; intro A' c' L w9 hL hs ht hA; have HM9 := Lib.hid (HMA.out.app hs ht hA); have HB9 := Lib.hid (mine_far2 HMA.out ht HBA.out (by decide)); have HZ9 := Lib.hid (mine_far2 HMA.out ht HZA.out (by decide)); have HL9 := Lib.hid hL.out; clear hs ht hA hL))
        all_goals
          have HLF : Hid (L = (l.take (k + 1)).map Wh.cl) := by
            show _ = _
            rw [HLK.out]
            exact HL9.out
          go_roundw
          case rel => exact ⟨k + 1, A', c', L, by omega, by omega, by go_num, rfl, HLF, by (first
            | exact HB9
            | exact HB9.out.drew), by (first
            | exact HZ9
            | exact HZ9.out.drew), by (first
            | exact HM9
            | exact HM9.out.old ((Touch.refl _ _).drew))⟩
          case measure => simp [intOf]; omega
      · as_aux_lemma =>
        have HLL : Hid (L2 = (l.take 140).map Wh.cl) := by
          show _ = _
          rcases (show k = l.length ∨ k = 140 by omega) with e | e
          · rw [HL2.out, e, List.take_of_length_le (Nat.le_refl _), List.take_of_length_le (by omega)]
          · rw [HL2.out, e]
        have HM2 : Hid (Mine intE w wr A2 c2 ((l.take 140).map Wh.cl)) := by
          show Mine _ _ _ _ _ _
          rw [← HLL.out]
          exact HM.out
        have HL3 : Hid (L2.length = ((l.take 140).map Wh.cl).length) := by
          show _ = _
          rw [HLL.out]
        clear HM HL2 HLL
        rcases (show ((k < l.length) ∧ ¬ k < 140) ∨ ¬ k < l.length by omega) with h | h
        · have ht1 : decide ((k : Int) < (l.length : Int)) = true := decide_eq_true (by omega)
          have ht2 : decide ((k : Int) < 140) = false := decide_eq_false (by omega)
          as_aux_lemma =>
          go_upto_region 8 with (fail)
          rw [HL3.out]
          generalize hLF : (l.take 140).map Wh.cl = LF at *
          have HLFF := Lib.hid hLF
          clear HL3 hLF
          have z5 : wr.frozen? ⟨b, 5, none⟩ = false := HB2.out.frozen 5
          have HB3 := Lib.hid (HB2.out.set 5 (.slice A2 LF.length c2))
          have HZ3 := Lib.hid (HZ2.out.far (p := ⟨b, 5, none⟩) (by have := HNB.out; show rb ≠ b; omega) (.slice A2 LF.length c2))
          have HM3 : Hid (Mine intE w (wr.setCell ⟨b, 5, none⟩ (.slice A2 LF.length c2)) A2 c2 LF) := HM2.out.own (Touch.set1 wr b 5 _) (fun k e => by have := HNB.out; have e : k = b := e; omega) (fun ad e => HM2.out.sl.blk_ne HB2.out (by decide) ad e)
          go_upto_region 9 with (fail)
          clear HB2 HZ2 HM2 c5 z5
          generalize (wr.setCell ⟨b, 5, none⟩ (.slice A2 LF.length c2)) = w8 at *
          have HB4 : Hid (Blk w8 b 36 [.int .i64 kind, .int .i64 sq, .int .i64 (Wh.cl n), .int .i64 (Wh.cl ps), .int .i64 (Wh.cl mr), .slice A2 LF.length c2, .bool self, .string (Wh.cut data)]) := HB3.out
          have HI : Hid ((Tryd.prog.info? 36).map (·.size) = some (#[.int .i64 kind, .int .i64 sq, .int .i64 (Wh.cl n), .int .i64 (Wh.cl ps), .int .i64 (Wh.cl mr), .slice A2 LF.length c2, .bool self, .string (Wh.cut data)] : Array Value).size) := by
            show _ = _
            kernel_rfl
          have HO1 : Hid ((#[.int .i64 kind, .int .i64 sq, .int .i64 (Wh.cl n), .int .i64 (Wh.cl ps), .int .i64 (Wh.cl mr), .slice A2 LF.length c2, .bool self, .string (Wh.cut data)] : Array Value).all (·.oneCell') = true) := by
            show _ = _
            simp [Value.oneCell']
          have HB11 : Hid (Blk (w8.setRow rb #[.int .i64 kind, .int .i64 sq, .int .i64 (Wh.cl n), .int .i64 (Wh.cl ps), .int .i64 (Wh.cl mr), .slice A2 LF.length c2, .bool self, .string (Wh.cut data)]) rb 36 [.int .i64 kind, .int .i64 sq, .int .i64 (Wh.cl n), .int .i64 (Wh.cl ps), .int .i64 (Wh.cl mr), .slice A2 LF.length c2, .bool self, .string (Wh.cut data)]) := setRow_heap w8 rb _ _ _ _ HZ3.out
          have HME : Hid (Mine intE w (w8.setRow rb #[.int .i64 kind, .int .i64 sq, .int .i64 (Wh.cl n), .int .i64 (Wh.cl ps), .int .i64 (Wh.cl mr), .slice A2 LF.length c2, .bool self, .string (Wh.cut data)]) A2 c2 LF) := HM3.out.own (⟨rfl, rfl, rfl, by simp, fun k _ hk => setRow_other w8 rb k _ hk⟩ : Touch (· = rb) w8 (w8.setRow rb #[.int .i64 kind, .int .i64 sq, .int .i64 (Wh.cl n), .int .i64 (Wh.cl ps), .int .i64 (Wh.cl mr), .slice A2 LF.length c2, .bool self, .string (Wh.cut data)])) (fun k e => by have := HNB.out; have e : k = rb := e; omega) (fun ad e => HM3.out.sl.blk_ne HZ3.out (by decide) ad e)
          clear HM3
          have HU := Lib.hid Tryd.underlying36
          refine wp_region_lit ?_
          refine wpList_load_row rfl 36 (.tmp 1) rfl b (by rfl) 36 #[.int .i64 kind, .int .i64 sq, .int .i64 (Wh.cl n), .int .i64 (Wh.cl ps), .int .i64 (Wh.cl mr), .slice A2 LF.length c2, .bool self, .string (Wh.cut data)] (0, 0) _ HB4.out HU.out rfl HI.out ?_
          refine wpList_store_row rfl 36 (.tmp 2) (.tmp 48) rfl rb #[.int .i64 kind, .int .i64 sq, .int .i64 (Wh.cl n), .int .i64 (Wh.cl ps), .int .i64 (Wh.cl mr), .slice A2 LF.length c2, .bool self, .string (Wh.cut data)] (by rfl) (by rfl) 36 #[.int .i64 0, .int .i64 0, .int .i64 0, .int .i64 0, .int .i64 0, .slice none 0 0, .bool false, .string ⟨#[]⟩] HZ3.out HI.out (by rfl) HO1.out ?_
          clear HB3 HB4 HZ3
          generalize (w8.setRow rb #[.int .i64 kind, .int .i64 sq, .int .i64 (Wh.cl n), .int .i64 (Wh.cl ps), .int .i64 (Wh.cl mr), .slice A2 LF.length c2, .bool self, .string (Wh.cut data)]) = w11 at *
          have r0 : w11.cell? ⟨rb, 0, none⟩ = some (.int .i64 kind) := HB11.out.cell 0
          have r1 : w11.cell? ⟨rb, 1, none⟩ = some (.int .i64 sq) := HB11.out.cell 1
          have r2 : w11.cell? ⟨rb, 2, none⟩ = some (.int .i64 (Wh.cl n)) := HB11.out.cell 2
          have r3 : w11.cell? ⟨rb, 3, none⟩ = some (.int .i64 (Wh.cl ps)) := HB11.out.cell 3
          have r4 : w11.cell? ⟨rb, 4, none⟩ = some (.int .i64 (Wh.cl mr)) := HB11.out.cell 4
          have r5 : w11.cell? ⟨rb, 5, none⟩ = some (.slice A2 LF.length c2) := HB11.out.cell 5
          have r6 : w11.cell? ⟨rb, 6, none⟩ = some (.bool self) := HB11.out.cell 6
          have r7 : w11.cell? ⟨rb, 7, none⟩ = some (.string (Wh.cut data)) := HB11.out.cell 7
          go_wp2_with fail
          refine bodyPost_ret (v := .agg #[.int .i64 kind, .int .i64 sq, .int .i64 (Wh.cl n), .int .i64 (Wh.cl ps), .int .i64 (Wh.cl mr), .slice A2 LF.length c2, .bool self, .string (Wh.cut data)]) (by simp [results, Tryd.results7, go_sem, r0, r1, r2, r3, r4, r5, r6, r7]) rfl ⟨A2, c2, by rw [HLFF.out], by rw [HLFF.out]; exact HME.out⟩
        · have ht1 : decide ((k : Int) < (l.length : Int)) = false := decide_eq_false (by omega)
          as_aux_lemma =>
          go_upto_region 8 with (fail)
          rw [HL3.out]
          generalize hLF : (l.take 140).map Wh.cl = LF at *
          have HLFF := Lib.hid hLF
          clear HL3 hLF
          have z5 : wr.frozen? ⟨b, 5, none⟩ = false := HB2.out.frozen 5
          have HB3 := Lib.hid (HB2.out.set 5 (.slice A2 LF.length c2))
          have HZ3 := Lib.hid (HZ2.out.far (p := ⟨b, 5, none⟩) (by have := HNB.out; show rb ≠ b; omega) (.slice A2 LF.length c2))
          have HM3 : Hid (Mine intE w (wr.setCell ⟨b, 5, none⟩ (.slice A2 LF.length c2)) A2 c2 LF) := HM2.out.own (Touch.set1 wr b 5 _) (fun k e => by have := HNB.out; have e : k = b := e; omega) (fun ad e => HM2.out.sl.blk_ne HB2.out (by decide) ad e)
          go_upto_region 9 with (fail)
          clear HB2 HZ2 HM2 c5 z5
          generalize (wr.setCell ⟨b, 5, none⟩ (.slice A2 LF.length c2)) = w8 at *
          have HB4 : Hid (Blk w8 b 36 [.int .i64 kind, .int .i64 sq, .int .i64 (Wh.cl n), .int .i64 (Wh.cl ps), .int .i64 (Wh.cl mr), .slice A2 LF.length c2, .bool self, .string (Wh.cut data)]) := HB3.out
          have HI : Hid ((Tryd.prog.info? 36).map (·.size) = some (#[.int .i64 kind, .int .i64 sq, .int .i64 (Wh.cl n), .int .i64 (Wh.cl ps), .int .i64 (Wh.cl mr), .slice A2 LF.length c2, .bool self, .string (Wh.cut data)] : Array Value).size) := by
            show _ = _
            kernel_rfl
          have HO1 : Hid ((#[.int .i64 kind, .int .i64 sq, .int .i64 (Wh.cl n), .int .i64 (Wh.cl ps), .int .i64 (Wh.cl mr), .slice A2 LF.length c2, .bool self, .string (Wh.cut data)] : Array Value).all (·.oneCell') = true) := by
            show _ = _
            simp [Value.oneCell']
          have HB11 : Hid (Blk (w8.setRow rb #[.int .i64 kind, .int .i64 sq, .int .i64 (Wh.cl n), .int .i64 (Wh.cl ps), .int .i64 (Wh.cl mr), .slice A2 LF.length c2, .bool self, .string (Wh.cut data)]) rb 36 [.int .i64 kind, .int .i64 sq, .int .i64 (Wh.cl n), .int .i64 (Wh.cl ps), .int .i64 (Wh.cl mr), .slice A2 LF.length c2, .bool self, .string (Wh.cut data)]) := setRow_heap w8 rb _ _ _ _ HZ3.out
          have HME : Hid (Mine intE w (w8.setRow rb #[.int .i64 kind, .int .i64 sq, .int .i64 (Wh.cl n), .int .i64 (Wh.cl ps), .int .i64 (Wh.cl mr), .slice A2 LF.length c2, .bool self, .string (Wh.cut data)]) A2 c2 LF) := HM3.out.own (⟨rfl, rfl, rfl, by simp, fun k _ hk => setRow_other w8 rb k _ hk⟩ : Touch (· = rb) w8 (w8.setRow rb #[.int .i64 kind, .int .i64 sq, .int .i64 (Wh.cl n), .int .i64 (Wh.cl ps), .int .i64 (Wh.cl mr), .slice A2 LF.length c2, .bool self, .string (Wh.cut data)])) (fun k e => by have := HNB.out; have e : k = rb := e; omega) (fun ad e => HM3.out.sl.blk_ne HZ3.out (by decide) ad e)
          clear HM3
          have HU := Lib.hid Tryd.underlying36
          refine wp_region_lit ?_
          refine wpList_load_row rfl 36 (.tmp 1) rfl b (by rfl) 36 #[.int .i64 kind, .int .i64 sq, .int .i64 (Wh.cl n), .int .i64 (Wh.cl ps), .int .i64 (Wh.cl mr), .slice A2 LF.length c2, .bool self, .string (Wh.cut data)] (0, 0) _ HB4.out HU.out rfl HI.out ?_
          refine wpList_store_row rfl 36 (.tmp 2) (.tmp 48) rfl rb #[.int .i64 kind, .int .i64 sq, .int .i64 (Wh.cl n), .int .i64 (Wh.cl ps), .int .i64 (Wh.cl mr), .slice A2 LF.length c2, .bool self, .string (Wh.cut data)] (by rfl) (by rfl) 36 #[.int .i64 0, .int .i64 0, .int .i64 0, .int .i64 0, .int .i64 0, .slice none 0 0, .bool false, .string ⟨#[]⟩] HZ3.out HI.out (by rfl) HO1.out ?_
          clear HB3 HB4 HZ3
          generalize (w8.setRow rb #[.int .i64 kind, .int .i64 sq, .int .i64 (Wh.cl n), .int .i64 (Wh.cl ps), .int .i64 (Wh.cl mr), .slice A2 LF.length c2, .bool self, .string (Wh.cut data)]) = w11 at *
          have r0 : w11.cell? ⟨rb, 0, none⟩ = some (.int .i64 kind) := HB11.out.cell 0
          have r1 : w11.cell? ⟨rb, 1, none⟩ = some (.int .i64 sq) := HB11.out.cell 1
          have r2 : w11.cell? ⟨rb, 2, none⟩ = some (.int .i64 (Wh.cl n)) := HB11.out.cell 2
          have r3 : w11.cell? ⟨rb, 3, none⟩ = some (.int .i64 (Wh.cl ps)) := HB11.out.cell 3
          have r4 : w11.cell? ⟨rb, 4, none⟩ = some (.int .i64 (Wh.cl mr)) := HB11.out.cell 4
          have r5 : w11.cell? ⟨rb, 5, none⟩ = some (.slice A2 LF.length c2) := HB11.out.cell 5
          have r6 : w11.cell? ⟨rb, 6, none⟩ = some (.bool self) := HB11.out.cell 6
          have r7 : w11.cell? ⟨rb, 7, none⟩ = some (.string (Wh.cut data)) := HB11.out.cell 7
          go_wp2_with fail
          refine bodyPost_ret (v := .agg #[.int .i64 kind, .int .i64 sq, .int .i64 (Wh.cl n), .int .i64 (Wh.cl ps), .int .i64 (Wh.cl mr), .slice A2 LF.length c2, .bool self, .string (Wh.cut data)]) (by simp [results, Tryd.results7, go_sem, r0, r1, r2, r3, r4, r5, r6, r7]) rfl ⟨A2, c2, by rw [HLFF.out], by rw [HLFF.out]; exact HME.out⟩
end Go.Proofs.YtpifgpmjnjbecaaDoor

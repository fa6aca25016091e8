/-
  polliwogref16.bring of what an Accept brings: an epoch begins. Conditions: the config's numbers may be · polliwogref16: hear and Receive of a BGN at an end that has just been made. Conditions: none but that · polliwogref16: Receive of a BGN, and Request of its Accept. Conditions: the config's numbers may be · polliwogref16.Next with one unit in its control. Conditions: none but that.
-/
import Derived.Test.YtipaobpmojahaaaGreatOpG
import Derived.Test.YtipaobpmojahaaaGreatOpE
set_option maxHeartbeats 4000000
namespace Go.Proofs.YtipaobpmojahaaaGreat
open Go.RowKit
set_option maxRecDepth 20000
set_option linter.constructorNameAsVariable false

theorem sub_at {cs vs : List Value} (o : Nat) (h : (cs.drop o).take vs.length = vs) : ∀ (j : Nat) (v : Value), vs[j]? = some v -> cs[o + j]? = some v := fun j v hv => by
 rw [<- h, List.getElem?_take] at hv
 split at hv
 ·rw [List.getElem?_drop] at hv; exact hv
 ·cases hv
def hbX (y0 y1 y2 y3 y4 y5 : Int) (T : Option Addr) (cT : Nat) (s : Cn.S) (L : Option Addr) (cL : Nat) (A : Option Addr) (c : Nat) : Rn := ⟨y0, y1, y2, y3, y4, y5, T, cT, s, L, cL, 0, 0, 0, 0, 0, 0, 0, 0, 0, 0, 0, 0, A, 1, c⟩
def hb0 (y0 y1 y2 y3 y4 y5 : Int) (T : Option Addr) (cT : Nat) (s : Cn.S) (L : Option Addr) (cL : Nat) : Rn := ⟨y0, y1, y2, y3, y4, y5, T, cT, s, L, cL, 0, 0, 0, 0, 0, 0, 0, 0, 0, 0, 0, 0, none, 0, 0⟩
def hbY (y0 y1 y2 y3 y4 y5 : Int) (T : Option Addr) (cT : Nat) (s : Cn.S) (L : Option Addr) (cL : Nat) (A : Option Addr) (c : Nat) (d : Int) : Rn := ⟨y0, y1, y2, y3, y4, y5, T, cT, s, L, cL, y5, y5, y5 + d, y5, y5, 0, y4, y2, 0, 0, 0, 0, A, 1, c⟩
def hbZ (y0 y1 y2 y3 y4 y5 : Int) (T : Option Addr) (cT : Nat) (s : Cn.S) (L : Option Addr) (cL : Nat) (A : Option Addr) (c : Nat) (d : Int) : Rn := ⟨y0, y1, y2, y3, y4, y5, T, cT, s, L, cL, y5, y5, y5 + d, y5, y5, 0, y4, y2, y5, y5, y5 + y1, y1, A, 1, c⟩
def bgak (m : Int) : Cn.Pd := ⟨2, 5, m, 0, 0, none, 0, 0, false, Cn.no⟩
def hbslot (i : Nat) : Nat := [110, 111, 112, 113, 114, 115, 116, 117, 118, 119, 120, 121, 122, 123, 1014].getD i 2000
def hbidx (k : Nat) : Nat := [0, 0, 0, 0, 0, 0, 0, 0, 0, 0, 0, 0, 0, 0, 0, 0, 0, 0, 0, 0, 0, 0, 0, 0, 0, 0, 0, 0, 0, 0, 0, 0, 0, 0, 0, 0, 0, 0, 0, 0, 0, 0, 0, 0, 0, 0, 0, 0, 0, 0, 0, 0, 0, 0, 0, 0, 0, 0, 0, 0, 0, 0, 0, 0, 0, 0, 0, 0, 0, 0, 0, 0, 0, 0, 0, 0, 0, 0, 0, 0, 0, 0, 0, 0, 0, 0, 0, 0, 0, 0, 0, 0, 0, 0, 0, 0, 0, 0, 0, 0, 0, 0, 0, 0, 0, 0, 0, 0, 0, 0, 0, 1, 2, 3, 4, 5, 6, 7, 8, 9, 10, 11, 12, 13].getD k 0
def hbD : List Nat := [110, 111, 112, 113, 114, 115, 116, 117, 118, 119, 120, 121, 122, 123]
def hbval (g : Nat) (y2 y4 y5 n d : Int) (_b : Unit) (i : Nat) : Value := [.pointer (some ⟨g + 1, 0, none⟩), .pointer (some ⟨g + 1, 5, none⟩), .int .i64 y5, .pointer (some ⟨g + 1, 0, none⟩), .pointer (some ⟨g + 1, 2, none⟩), .int .i64 y2, .pointer (some ⟨g + 1, 0, none⟩), .pointer (some ⟨g + 1, 4, none⟩), .int .i64 y4, .agg (s11 y5 y5 y5 y5 y5 0 y4 y2).toArray, .pointer (some ⟨g + 1 + 1, 4, none⟩), .int .i64 n, .agg (s11 y5 y5 (y5 + d) y5 y5 0 y4 y2).toArray, .pointer (some ⟨g + 1, 17, none⟩), undef].getD i undef

def hbWD (w : World) (g : Nat) (z : Rn) (y0 y1 y2 y3 y4 y5 : Int) (T : Option Addr) (cT : Nat) (s : Cn.S) (L : Option Addr) (cL : Nat) (A : Option Addr) (c : Nat) (P : RP) (m n d : Int) (l : List Int) (u : List Cn.Pd) (_b : Unit) (dn : Nat -> Bool) (W : World) : Prop :=
 FB (FF w) [g, g + 1, g + 1 + 1, g + 1 + 1 + 1] w W [⟨g, 40, z.cells⟩, ⟨g + 1, 40, if dn 14 = true then (hbY y0 y1 y2 y3 y4 y5 T cT s L cL A c d).cells else (hbX y0 y1 y2 y3 y4 y5 T cT s L cL A c).cells⟩, ⟨g + 1 + 1, 217, rrCells P (rqR m n)⟩, ⟨g + 1 + 1 + 1, 40, rnZ⟩] ∧ Sl intE W L cL l ∧ Sl rp06E W A c u
theorem hbWD.upd {w : World} {g : Nat} {z : Rn} {y0 y1 y2 y3 y4 y5 : Int} {T : Option Addr} {cT : Nat} {s : Cn.S} {L : Option Addr} {cL : Nat} {A : Option Addr} {c : Nat} {P : RP} {m n d : Int} {l : List Int} {u : List Cn.Pd} {b : Unit} {dn : Nat -> Bool} {W W' : World} (h : hbWD w g z y0 y1 y2 y3 y4 y5 T cT s L cL A c P m n d l u b dn W) {i : Nat} (h1 : i ≠ 14) (hf : Fresh W W') : hbWD w g z y0 y1 y2 y3 y4 y5 T cT s L cL A c P m n d l u b (Dag.upd dn i true) W' := by
 unfold hbWD
 rw [Dag.upd_far _ _ (Ne.symm h1)]
 exact ⟨h.1.fresh hf, h.2.1.touch hf (fun _ _ e => e), h.2.2.touch hf (fun _ _ e => e)⟩
theorem rbring_acc (z : Rn) (y0 y1 y2 y3 y4 y5 : Int) (T : Option Addr) (cT : Nat) (tk : List Int) (s : Cn.S) (L : Option Addr) (cL : Nat) (P : RP) (m n d : Int) (w : World) (n0 : Nat) (hn0 : n0 <= w.heap.size) (h : Sl runitE w P.A2 P.c2 (rqR m n).units) (hT : Sl intE w T cT tk) (htk : tk.length = 5) (hL : Sl intE w L cL [0, 0, 0, 0, 0])
  (hy : 0 <= y5 ∧ y5 < 16777216) (h1 : 1 <= y1 ∧ y1 <= 64) (h2 : 1 <= y2 ∧ y2 <= 256) (h4 : 1 <= y4 ∧ y4 <= 256) (hd : (n - y5) % 16777216 = d) (hd2 : d <= 8388608) :
  Calls Tryz.prog 125 #[.agg z.cells.toArray, .agg (hb0 y0 y1 y2 y3 y4 y5 T cT s L cL).cells.toArray, .agg (rrCells P (rqR m n)).toArray] w fun e w' => ∃ L' cL' A c A0 c0, e = .returned (.tuple #[.agg (hbZ y0 y1 y2 y3 y4 y5 T cT s L' cL' A c d).cells.toArray, .slice A0 0 c0]) ∧ Nw rp06E n0 w' A c [bgak m] ∧ Fresh w w' := by
 have HSN := lh (rsnew_any y5 y2 y4 hy h2 h4)
 have HSO := lh (rsopen_any y5 d n y4 y2 hy hd hd2)
 have HRN := lh (rr12new_any y5 y1 hy h1)
 obtain ⟨w1, hw1⟩ := xq ((((w.alloc (.cells z.cells.toArray 40)).alloc (.cells (hb0 y0 y1 y2 y3 y4 y5 T cT s L cL).cells.toArray 40)).alloc (.cells (rrCells P (rqR m n)).toArray 217)).alloc (.cells rnZ.toArray 40))
 have HX : Hid (FB (FF w) [w.heap.size, w.heap.size + 1, w.heap.size + 1 + 1, w.heap.size + 1 + 1 + 1] w w1 [⟨w.heap.size, 40, z.cells⟩, ⟨w.heap.size + 1, 40, (hb0 y0 y1 y2 y3 y4 y5 T cT s L cL).cells⟩, ⟨w.heap.size + 1 + 1, 217, rrCells P (rqR m n)⟩, ⟨w.heap.size + 1 + 1 + 1, 40, rnZ⟩]) := by rw [hw1]; exact (((((FB.nil w (fun k e => e)).al _ _ _ (by simp)).al _ _ _ (by simp)).al _ _ _ (by simp)).al _ rnZ _ (by simp))
 have HSZ : Hid (w1.heap.size = w.heap.size + 1 + 1 + 1 + 1) := by rw [hw1]; unfold Hid; simp
 have HUN := lh h
 have HN0 : Hid (n0 <= w.heap.size) := hn0
 clear hn0
 have HT := lh hT
 have HTK := lh htk
 have HL0 := lh hL
 have HY := lh (show (0 <= y5 ∧ y5 < 16777216) ∧ (1 <= y1 ∧ y1 <= 64) from ⟨hy, h1⟩)
 clear h hT htk hL hy h1 h2 h4 hd hd2
 unfold rnZ at hw1
 go_enter Tryz.func125, Tryz.ntmps125
 go_upto_region 1 with (fail)
 rw [<- hw1]
 clear hw1
 generalize hg : w.heap.size = g at *
 go_upto_region 2 with (fail)
 obtain ⟨w2, hw2⟩ := xq (w1.alloc (.cells #[] 143))
 have HX2 : Hid (FB (FF w) [g, g + 1, g + 1 + 1, g + 1 + 1 + 1] w w2 [⟨g, 40, z.cells⟩, ⟨g + 1, 40, (hb0 y0 y1 y2 y3 y4 y5 T cT s L cL).cells⟩, ⟨g + 1 + 1, 217, rrCells P (rqR m n)⟩, ⟨g + 1 + 1 + 1, 40, rnZ⟩]) := by rw [hw2]; exact HX.out.fresh ((Touch.refl _ _).alloc _)
 rw [<- hw2, HSZ.out]
 clear hw2 HX HSZ
 have HX := HX2
 clear HX2
 have r0 : w2.cell? ⟨g + 1 + 1, 0, none⟩ = some (.slice P.A1 0 P.c1) := (HX.out.at_ 2 rfl).cell 0
 have r1 : w2.cell? ⟨g + 1 + 1, 1, none⟩ = some (.slice P.A2 1 P.c2) := (HX.out.at_ 2 rfl).cell 1
 go_upto_block 0 with (fail)
 go_cut [20, 8] (fun v v8 wx => wx = w2 ∧ v8 = .slice (some ⟨g + 1 + 1 + 1 + 1, 0, none⟩) 0 0)
 case first =>
  go_wp2_with fail
  go_loopw [20, 8] (fun i v8 wr => i = .int .i64 0 ∧ wr = w2 ∧ v8 = .slice (some ⟨g + 1 + 1 + 1 + 1, 0, none⟩) 0 0) (fun i _ _ => 0)
  case atStart => exact ⟨rfl, rfl, rfl⟩
  case round =>
   obtain ⟨rfl, rfl, rfl⟩ := hrel
   go_wp2
   go_meet
   case rel => exact ⟨rfl, rfl⟩
 case rest =>
 obtain ⟨rfl, rfl⟩ := hcut
 go_upto_block 2 with (fail)
 go_cut [40] (fun v wx => ∃ A c, Hid (FB (FF w) [g, g + 1, g + 1 + 1, g + 1 + 1 + 1] w wx [⟨g, 40, z.cells⟩, ⟨g + 1, 40, (hbX y0 y1 y2 y3 y4 y5 T cT s L cL A c).cells⟩, ⟨g + 1 + 1, 217, rrCells P (rqR m n)⟩, ⟨g + 1 + 1 + 1, 40, rnZ⟩]) ∧ Hid (Nw rp06E (g + 1 + 1 + 1 + 1) wx A c [bgak m]))
 case first =>
  go_wp2_with fail
  go_loopw [40] (fun i wr => ∃ (j : Nat) (A : Option Addr) (c : Nat), j <= 1 ∧ i = .int .i64 j ∧ Hid (FB (FF w) [g, g + 1, g + 1 + 1, g + 1 + 1 + 1] w wr [⟨g, 40, z.cells⟩, ⟨g + 1, 40, if j = 0 then (hb0 y0 y1 y2 y3 y4 y5 T cT s L cL).cells else (hbX y0 y1 y2 y3 y4 y5 T cT s L cL A c).cells⟩, ⟨g + 1 + 1, 217, rrCells P (rqR m n)⟩, ⟨g + 1 + 1 + 1, 40, rnZ⟩]) ∧ Hid (Nw rp06E (g + 1 + 1 + 1 + 1) wr A c ([bgak m].take j))) (fun i _ => 1 - (intOf i).toNat)
  case atStart => exact ⟨0, none, 0, by omega, rfl, HX.out, Sl.nil _ _, fun ad e => by cases e⟩
  case round =>
   clear HX r0 r1
   obtain ⟨j, A, c, hj, rfl, HX, HN⟩ := hrel
   rcases (show j = 0 ∨ j = 1 by omega) with rfl | rfl
   ·have HX2 : Hid (FB (FF w) [g, g + 1, g + 1 + 1, g + 1 + 1 + 1] w wr [⟨g, 40, z.cells⟩, ⟨g + 1, 40, (hb0 y0 y1 y2 y3 y4 y5 T cT s L cL).cells⟩, ⟨g + 1 + 1, 217, rrCells P (rqR m n)⟩, ⟨g + 1 + 1 + 1, 40, rnZ⟩]) := HX.out
    clear HX HN
    have HX := HX2
    clear HX2
    obtain ⟨gs, os, hA, _, hc⟩ := (HUN.out.touch HX.out.ff (fun _ _ e => e)).at_ 0 (by show 0 < 1; decide)
    have s0 : wr.cell? ⟨gs, os, none⟩ = some (.int .i64 2) := hc 0 _ rfl
    have s1 : wr.cell? ⟨gs, os + 1, none⟩ = some (.int .i64 5) := hc 1 _ rfl
    have s2 : wr.cell? ⟨gs, os + 2, none⟩ = some (.int .i64 m) := hc 2 _ rfl
    have s3 : wr.cell? ⟨gs, os + 3, none⟩ = some (.bool false) := hc 3 _ rfl
    have s4 : wr.cell? ⟨gs, os + 4, none⟩ = some (.string { data := #[] }) := hc 4 _ rfl
    rw [hA]
    have HA := lh hA
    clear hA hc
    go_upto_region 11 with (fail)
    obtain ⟨w5, hw5⟩ := xq ((wr.alloc (.cells #[.int .i64 2, .int .i64 5, .int .i64 m, .bool false, .string { data := #[] }] 276)).alloc (.cells #[] 139))
    obtain ⟨h, hh⟩ := xq wr.heap.size
    have HX5 := lh ((HX.out.fresh (w' := wr.alloc (.cells #[.int .i64 2, .int .i64 5, .int .i64 m, .bool false, .string { data := #[] }] 276)) ((Touch.refl _ _).alloc _)).fresh (w' := w5) (by rw [hw5]; exact (Touch.refl _ _).alloc _))
    have HBU : Hid (Blk w5 h 276 [.int .i64 2, .int .i64 5, .int .i64 m, .bool false, .string { data := #[] }]) := by rw [hw5, hh]; exact (Blk.new wr _ [.int .i64 2, .int .i64 5, .int .i64 m, .bool false, .string { data := #[] }]).alloc _
    have HNR : Hid (Sl rp06E w5 (some ⟨h + 1, 0, none⟩) 0 []) := by rw [hw5, hh]; exact Sl.lit rp06E _ _ (by simp) #[] [] rfl 0 rfl (by decide)
    have HGH : Hid (g + 1 + 1 + 1 < h) := by rw [hh]; exact HX.out.lt _ (by simp)
    rw [<- hw5, <- hh]
    clear hw5 hh HX s0 s1 s2 s3 s4
    have c36 : w5.cell? ⟨g + 1, 36, none⟩ = some (.slice none 0 0) := (HX5.out.at_ 1 rfl).cell 36
    go_upto_block 4 with (fail)
    go_cut [48, 13] (fun v v13 wx => wx = w5 ∧ v13 = .slice (some ⟨h + 1, 0, none⟩) 0 0)
    case first =>
     go_wp2_with fail
     go_loopw [48, 13] (fun i v13 wr => i = .int .i64 0 ∧ wr = w5 ∧ v13 = .slice (some ⟨h + 1, 0, none⟩) 0 0) (fun i _ _ => 0)
     case atStart => exact ⟨rfl, rfl, rfl⟩
     case round =>
      obtain ⟨rfl, rfl, rfl⟩ := hrel
      go_wp2
      go_meet
      case rel => exact ⟨rfl, rfl⟩
    case rest =>
    obtain ⟨rfl, rfl⟩ := hcut
    clear c36
    generalize wc = w5 at *
    have b0 : w5.cell? ⟨h, 0, none⟩ = some (.int .i64 2) := HBU.out.cell 0
    have b1 : w5.cell? ⟨h, 1, none⟩ = some (.int .i64 5) := HBU.out.cell 1
    have b2 : w5.cell? ⟨h, 2, none⟩ = some (.int .i64 m) := HBU.out.cell 2
    have b3 : w5.cell? ⟨h, 3, none⟩ = some (.bool false) := HBU.out.cell 3
    have b4 : w5.cell? ⟨h, 4, none⟩ = some (.string { data := #[] }) := HBU.out.cell 4
    have HTK : Hid (∀ w6, Touch (fun k => (some ⟨h + 1, 0, none⟩ : Option Addr).map Addr.block = some k) (w5.alloc (.cells #[.int .i64 2, .int .i64 5, .int .i64 m, .int .i64 0, .int .i64 0, .slice none 0 0, .bool false, .string { data := #[] }] 139)) w6 -> FB (FF w) [g, g + 1, g + 1 + 1, g + 1 + 1 + 1] w w6 [⟨g, 40, z.cells⟩, ⟨g + 1, 40, (hb0 y0 y1 y2 y3 y4 y5 T cT s L cL).cells⟩, ⟨g + 1 + 1, 217, rrCells P (rqR m n)⟩, ⟨g + 1 + 1 + 1, 40, rnZ⟩]) := fun w6 ht =>
     (HX5.out.fresh (w' := w5.alloc _) ((Touch.refl _ _).alloc _)).act (ht.mono fun k hk e hkb => by
      injection e with e
      have e : h + 1 = k := e
      have h5 := HGH.out
      rcases hkb with hkb | hkb
      ·have hkb : k < w.heap.size := hkb
       omega
      ·simp only [List.mem_cons, List.not_mem_nil, or_false] at hkb
       omega)
    go_wp2_with (at_builtin; refine app_pd06 rfl rfl (l := []) (l2 := [bgak m]) rfl rfl (HNR.out.alloc _) (Sl.rd (Sl.lit rp06E w5 _ rfl _ [bgak m] rfl 1 rfl (by decide))) (by simp) ?_; intro A6 c6 L6 w6 hL6 hs6 ht6 hb6; have HX6 := lh (HTK.out w6 ht6); have c36 : w6.cell? ⟨g + 1, 36, none⟩ = some (.slice none 0 0) := (HX6.out.at_ 1 rfl).cell 36; have f36 : w6.frozen? ⟨g + 1, 36, none⟩ = false := (HX6.out.at_ 1 rfl).frozen 36)
    obtain rfl := hL6.out
    have hg6 : ∀ ad, A6 = some ad -> g + 1 + 1 + 1 + 1 <= ad.block := fun ad e => by
     subst e
     have h5 := HGH.out
     rcases hb6 with hb | hb
     ·injection hb with hb
      have hb : ad.block = h + 1 := hb
      omega
     ·injection hb with hb
      have hb : ad.block = (w5.alloc _).heap.size := hb
      have h6 := HBU.out.lt
      rw [hb]
      simp
      omega
    have HX7 := lh (HX6.out.put1 1 rfl 36 (.slice A6 1 c6))
    have HN7 : Hid (Nw rp06E (g + 1 + 1 + 1 + 1) (w6.setCell ⟨g + 1, 36, none⟩ (.slice A6 1 c6)) A6 c6 [bgak m]) := ⟨hs6.touch (Touch.set1 w6 (g + 1) 36 _) (fun ad e e2 => by have := hg6 ad e; have e2 : ad.block = g + 1 := e2; omega), hg6⟩
    exact ⟨⟨1, A6, c6, by omega, rfl, HX7.out, HN7.out⟩, by simp [intOf]⟩
   ·go_wp2
    go_meet
    case rel => exact ⟨A, c, HX, HN⟩
 case rest =>
 clear HX r0 r1
 obtain ⟨A, c, HX, HNw⟩ := hcut
 generalize wc = w3 at *
 have HN := lh HNw.out.1
 have HADN : Hid (∀ ad, A = some ad -> n0 <= ad.block) := fun ad e => by have := HNw.out.2 ad e; have := HN0.out; omega
 clear HNw HUN
 have r5 : w3.cell? ⟨g + 1 + 1, 5, none⟩ = some (.int .i64 2) := (HX.out.at_ 2 rfl).cell 5
 go_upto_region 23 with (first
  |(refine wpList_loadB rfl _ (.tmp 88) rfl (g + 1) 15 (by rfl) [.slice T 5 cT, .slice L 5 cL] ((HX.out.at_ 1 rfl).range_at 15 (sub_at 15 rfl)) Tryz.underlying31 rfl p15I ?_)
  |(go_at_call 194; refine (ref_enough T L cT cL tk [0, 0, 0, 0, 0] _ HTK.out rfl (HT.out.touch HX.out.ff (fun _ _ e => e)) (HL0.out.touch HX.out.ff (fun _ _ e => e))).mono ?_; rintro e w4 ⟨L2, cL2, rfl, s2, f2⟩; have HX := lh (HX.out.fresh f2); have HN := lh (HN.out.touch f2 (fun _ _ e => e)); have HL2 := lh s2; clear s2 f2)
  |(refine wpList_storeB rfl _ (.tmp 91) (.tmp 90) rfl (g + 1) 15 (by rfl) [.slice T 5 cT, .slice L2 5 cL2] (by rfl) (HX.out.at_ 1 rfl) (Nat.le_of_ble_eq_true rfl) p15I (by simp [Value.oneCell']) ?_; intro w5 hB ht; have HL2 := lh (HL2.out.touch ht (fun ad e e2 => HL2.out.blk_ne (HX.out.at_ 1 rfl) (show intE.e ≠ 40 by decide) ad e e2)); have HN := lh (HN.out.touch ht (fun ad e e2 => HN.out.blk_ne (HX.out.at_ 1 rfl) (show rp06E.e ≠ 40 by decide) ad e e2)); have HX := lh (HX.out.put 1 rfl (cs := (hbX y0 y1 y2 y3 y4 y5 T cT s L2 cL2 A c).cells) (hB.eq_cells rfl) ht); clear hB ht))
 have r3 : w5.cell? ⟨g + 1 + 1, 3, none⟩ = some (.bool false) := (HX.out.at_ 2 rfl).cell 3
 have r2 : w5.cell? ⟨g + 1 + 1, 2, none⟩ = some (.bool true) := (HX.out.at_ 2 rfl).cell 2
 go_upto_region 27 with (fail)
 clear r2 r3 r5 HL0
 have HINJ : Hid (∀ i, i < 15 -> ∀ j, j < 15 -> hbslot i = hbslot j -> i = j) := by
  show ∀ i, i < 15 -> ∀ j, j < 15 -> hbslot i = hbslot j -> i = j
  decide +kernel
 have HFD : Hid (∀ k, k ∈ hbD -> hbidx k < 15 ∧ hbslot (hbidx k) = k) := by
  show ∀ k, k ∈ hbD -> hbidx k < 15 ∧ hbslot (hbidx k) = k
  decide +kernel
 refine Dag.detP (by kernel_rfl) 15 hbD hbslot (hbval g y2 y4 y5 n d) (hbWD w g z y0 y1 y2 y3 y4 y5 T cT s L2 cL2 A c P m n d (Rf.ons tk (Rf.offs [0, 0, 0, 0, 0] [0]) []) [bgak m]) () (fun b k => hbval g y2 y4 y5 n d b (hbidx k)) (by rfl) (fun i j hi hj => HINJ.out i hi j hj) (by decide +kernel) ⟨HX.out.fresh (Touch.refl _ _).drew, HL2.out.touch (Touch.refl (fun _ => False) _).drew (fun _ _ e => e), HN.out.touch (Touch.refl (fun _ => False) _).drew (fun _ _ e => e)⟩ (by decide +kernel)
  ⟨?_, ?_, ?_, ?_, ?_, ?_, ?_, ?_, ?_, ?_, ?_, ?_, ?_, ?_, ?_, trivial⟩ (fun b k hk => ⟨hbidx k, (HFD.out k hk).1, (HFD.out k hk).2, rfl⟩) ?_
 ·refine Dag.PStep.pure 110 rfl rfl rfl (by decide) (fun b dn W h => h.upd (by decide) (Touch.refl _ _)) (fun b dn R W hp hm hW => ?_)
  have q4 : R.eval (.tmp 4) = .pointer (some ⟨g + 1, 0, none⟩) := hm.old 4 (by decide)
  clear hp hm hW
  show (execOp R.eval _).run Tryz.prog W = .ok (.value (.pointer (some ⟨g + 1, 0, none⟩))) W
  unfold execOp
  generalize R.eval = ρ at *
  go_simp
 ·refine Dag.PStep.pure 111 rfl rfl rfl (by decide) (fun b dn W h => h.upd (by decide) (Touch.refl _ _)) (fun b dn R W hp hm hW => ?_)
  have q110 : R.eval (.tmp 110) = .pointer (some ⟨g + 1, 0, none⟩) := hm.got 0 (by decide) (hp 0 (by decide +kernel)) (by decide) (by show (110 : Nat) < 146; decide)
  clear hp hm hW
  show (execOp R.eval _).run Tryz.prog W = .ok (.value (.pointer (some ⟨g + 1, 5, none⟩))) W
  unfold execOp
  generalize R.eval = ρ at *
  go_simp
 ·refine Dag.PStep.pure 112 rfl rfl rfl (by decide) (fun b dn W h => h.upd (by decide) (Touch.refl _ _)) (fun b dn R W hp hm hW => ?_)
  have q111 : R.eval (.tmp 111) = .pointer (some ⟨g + 1, 5, none⟩) := hm.got 1 (by decide) (hp 1 (by decide +kernel)) (by decide) (by show (111 : Nat) < 146; decide)
  have c5 : W.cell? ⟨g + 1, 5, none⟩ = some (.int .i64 y5) := by
   have h := (hW.1.at_ 1 rfl).cell 5
   simp only at h
   split at h <;> exact h
  clear hp hm hW
  show (execOp R.eval _).run Tryz.prog W = .ok (.value (.int .i64 y5)) W
  unfold execOp
  generalize R.eval = ρ at *
  go_simp
 ·refine Dag.PStep.pure 113 rfl rfl rfl (by decide) (fun b dn W h => h.upd (by decide) (Touch.refl _ _)) (fun b dn R W hp hm hW => ?_)
  have q4 : R.eval (.tmp 4) = .pointer (some ⟨g + 1, 0, none⟩) := hm.old 4 (by decide)
  clear hp hm hW
  show (execOp R.eval _).run Tryz.prog W = .ok (.value (.pointer (some ⟨g + 1, 0, none⟩))) W
  unfold execOp
  generalize R.eval = ρ at *
  go_simp
 ·refine Dag.PStep.pure 114 rfl rfl rfl (by decide) (fun b dn W h => h.upd (by decide) (Touch.refl _ _)) (fun b dn R W hp hm hW => ?_)
  have q113 : R.eval (.tmp 113) = .pointer (some ⟨g + 1, 0, none⟩) := hm.got 3 (by decide) (hp 3 (by decide +kernel)) (by decide) (by show (113 : Nat) < 146; decide)
  clear hp hm hW
  show (execOp R.eval _).run Tryz.prog W = .ok (.value (.pointer (some ⟨g + 1, 2, none⟩))) W
  unfold execOp
  generalize R.eval = ρ at *
  go_simp
 ·refine Dag.PStep.pure 115 rfl rfl rfl (by decide) (fun b dn W h => h.upd (by decide) (Touch.refl _ _)) (fun b dn R W hp hm hW => ?_)
  have q114 : R.eval (.tmp 114) = .pointer (some ⟨g + 1, 2, none⟩) := hm.got 4 (by decide) (hp 4 (by decide +kernel)) (by decide) (by show (114 : Nat) < 146; decide)
  have c2 : W.cell? ⟨g + 1, 2, none⟩ = some (.int .i64 y2) := by
   have h := (hW.1.at_ 1 rfl).cell 2
   simp only at h
   split at h <;> exact h
  clear hp hm hW
  show (execOp R.eval _).run Tryz.prog W = .ok (.value (.int .i64 y2)) W
  unfold execOp
  generalize R.eval = ρ at *
  go_simp
 ·refine Dag.PStep.pure 116 rfl rfl rfl (by decide) (fun b dn W h => h.upd (by decide) (Touch.refl _ _)) (fun b dn R W hp hm hW => ?_)
  have q4 : R.eval (.tmp 4) = .pointer (some ⟨g + 1, 0, none⟩) := hm.old 4 (by decide)
  clear hp hm hW
  show (execOp R.eval _).run Tryz.prog W = .ok (.value (.pointer (some ⟨g + 1, 0, none⟩))) W
  unfold execOp
  generalize R.eval = ρ at *
  go_simp
 ·refine Dag.PStep.pure 117 rfl rfl rfl (by decide) (fun b dn W h => h.upd (by decide) (Touch.refl _ _)) (fun b dn R W hp hm hW => ?_)
  have q116 : R.eval (.tmp 116) = .pointer (some ⟨g + 1, 0, none⟩) := hm.got 6 (by decide) (hp 6 (by decide +kernel)) (by decide) (by show (116 : Nat) < 146; decide)
  clear hp hm hW
  show (execOp R.eval _).run Tryz.prog W = .ok (.value (.pointer (some ⟨g + 1, 4, none⟩))) W
  unfold execOp
  generalize R.eval = ρ at *
  go_simp
 ·refine Dag.PStep.pure 118 rfl rfl rfl (by decide) (fun b dn W h => h.upd (by decide) (Touch.refl _ _)) (fun b dn R W hp hm hW => ?_)
  have q117 : R.eval (.tmp 117) = .pointer (some ⟨g + 1, 4, none⟩) := hm.got 7 (by decide) (hp 7 (by decide +kernel)) (by decide) (by show (117 : Nat) < 146; decide)
  have c4 : W.cell? ⟨g + 1, 4, none⟩ = some (.int .i64 y4) := by
   have h := (hW.1.at_ 1 rfl).cell 4
   simp only at h
   split at h <;> exact h
  clear hp hm hW
  show (execOp R.eval _).run Tryz.prog W = .ok (.value (.int .i64 y4)) W
  unfold execOp
  generalize R.eval = ρ at *
  go_simp
 ·refine ⟨rfl, fun s hs => (by cases hs; exact ⟨rfl, by decide⟩), fun b dn R W hi hp hcl hm hW => ?_⟩
  have q112 : R.eval (.tmp 112) = .int .i64 y5 := hm.got 2 (by decide) (hp 2 (by decide +kernel)) (by decide) (by show (112 : Nat) < 146; decide)
  have q115 : R.eval (.tmp 115) = .int .i64 y2 := hm.got 5 (by decide) (hp 5 (by decide +kernel)) (by decide) (by show (115 : Nat) < 146; decide)
  have q118 : R.eval (.tmp 118) = .int .i64 y4 := hm.got 8 (by decide) (hp 8 (by decide +kernel)) (by decide) (by show (118 : Nat) < 146; decide)
  have qf : R.eval (.func 197) = .func (.func 197) #[] #[] := hm.cst _ (fun k e => by cases e)
  refine .call 119 rfl 197 #[.int .i64 y5, .int .i64 y2, .int .i64 y4] ?_ ((HSN.out W).mono ?_)
  ·clear hi hp hcl hm hW
   unfold execOp
   generalize R.eval = ρ at *
   go_simp
  ·rintro e w' ⟨rfl, f⟩
   exact ⟨_, rfl, b, rfl, fun _ _ _ => rfl, hW.upd (by decide) f⟩
 ·refine Dag.PStep.pure 120 rfl rfl rfl (by decide) (fun b dn W h => h.upd (by decide) (Touch.refl _ _)) (fun b dn R W hp hm hW => ?_)
  have q5 : R.eval (.tmp 5) = .pointer (some ⟨g + 1 + 1, 0, none⟩) := hm.old 5 (by decide)
  clear hp hm hW
  show (execOp R.eval _).run Tryz.prog W = .ok (.value (.pointer (some ⟨g + 1 + 1, 4, none⟩))) W
  unfold execOp
  generalize R.eval = ρ at *
  go_simp
 ·refine Dag.PStep.pure 121 rfl rfl rfl (by decide) (fun b dn W h => h.upd (by decide) (Touch.refl _ _)) (fun b dn R W hp hm hW => ?_)
  have q120 : R.eval (.tmp 120) = .pointer (some ⟨g + 1 + 1, 4, none⟩) := hm.got 10 (by decide) (hp 10 (by decide +kernel)) (by decide) (by show (120 : Nat) < 146; decide)
  have c4 : W.cell? ⟨g + 1 + 1, 4, none⟩ = some (.int .i64 n) := (hW.1.at_ 2 rfl).cell 4
  clear hp hm hW
  show (execOp R.eval _).run Tryz.prog W = .ok (.value (.int .i64 n)) W
  unfold execOp
  generalize R.eval = ρ at *
  go_simp
 ·refine ⟨rfl, fun s hs => (by cases hs; exact ⟨rfl, by decide⟩), fun b dn R W hi hp hcl hm hW => ?_⟩
  have q119 : R.eval (.tmp 119) = .agg (s11 y5 y5 y5 y5 y5 0 y4 y2).toArray := hm.got 9 (by decide) (hp 9 (by decide +kernel)) (by decide) (by show (119 : Nat) < 146; decide)
  have q121 : R.eval (.tmp 121) = .int .i64 n := hm.got 11 (by decide) (hp 11 (by decide +kernel)) (by decide) (by show (121 : Nat) < 146; decide)
  have qf : R.eval (.func 196) = .func (.func 196) #[] #[] := hm.cst _ (fun k e => by cases e)
  refine .call 122 rfl 196 #[.agg (s11 y5 y5 y5 y5 y5 0 y4 y2).toArray, .int .i64 n] ?_ ((HSO.out W).mono ?_)
  ·clear hi hp hcl hm hW
   unfold execOp
   generalize R.eval = ρ at *
   go_simp
  ·rintro e w' ⟨rfl, f⟩
   exact ⟨_, rfl, b, rfl, fun _ _ _ => rfl, hW.upd (by decide) f⟩
 ·refine Dag.PStep.pure 123 rfl rfl rfl (by decide) (fun b dn W h => h.upd (by decide) (Touch.refl _ _)) (fun b dn R W hp hm hW => ?_)
  have q4 : R.eval (.tmp 4) = .pointer (some ⟨g + 1, 0, none⟩) := hm.old 4 (by decide)
  clear hp hm hW
  show (execOp R.eval _).run Tryz.prog W = .ok (.value (.pointer (some ⟨g + 1, 17, none⟩))) W
  unfold execOp
  generalize R.eval = ρ at *
  go_simp
 ·refine ⟨rfl, fun s hs => (by cases hs), fun b dn R W hi hp hcl hm hW => ?_⟩
  have q123 : R.eval (.tmp 123) = .pointer (some ⟨g + 1, 17, none⟩) := hm.got 13 (by decide) (hp 13 (by decide +kernel)) (by decide) (by show (123 : Nat) < 146; decide)
  have q122 : R.eval (.tmp 122) = .agg (s11 y5 y5 (y5 + d) y5 y5 0 y4 y2).toArray := hm.got 12 (by decide) (hp 12 (by decide +kernel)) (by decide) (by show (122 : Nat) < 146; decide)
  have hB := hW.1.at_ 1 rfl
  have ht : Touch (· = g + 1) W (W.setCells (g + 1) 17 (s11 y5 y5 (y5 + d) y5 y5 0 y4 y2)) := Touch.setCells (S := (· = g + 1)) rfl _ _ (Touch.refl _ _)
  rw [hi] at hB
  refine .skip rfl undef (W.setCells (g + 1) 17 (s11 y5 y5 (y5 + d) y5 y5 0 y4 y2)) (exec_storeB rfl q123 q122 (hB.there_at 17 (Nat.le_of_ble_eq_true rfl)) s11I (by simp [s11, Value.oneCell'])) ⟨b, rfl, fun _ _ _ => rfl, ?_, hW.2.1.touch ht (fun ad e e2 => hW.2.1.blk_ne hB (show intE.e ≠ 40 by decide) ad e e2), hW.2.2.touch ht (fun ad e e2 => hW.2.2.blk_ne hB (show rp06E.e ≠ 40 by decide) ad e e2)⟩
  have h1 := hW.1.put 1 rfl (cs := (hbY y0 y1 y2 y3 y4 y5 T cT s L2 cL2 A c d).cells) ((Blk.setCells_at (s11 y5 y5 (y5 + d) y5 y5 0 y4 y2) 17 hB (Nat.le_of_ble_eq_true rfl)).eq_cells rfl) ht
  rw [Dag.upd_same]
  exact h1
 ·intro b dn w6 hd hW
  obtain ⟨h1, h2, h3⟩ := hW
  rw [hd 14 (by decide), if_pos rfl] at h1
  have HX := lh h1
  have HL2 := lh h2
  have HN := lh h3
  clear h1 h2 h3 hd HINJ HFD HSN HSO
  simp only [hbD, Dag.actOf, List.foldl_cons, List.foldl_nil, hbval, hbidx]
  have c5 : w6.cell? ⟨g + 1, 5, none⟩ = some (.int .i64 y5) := (HX.out.at_ 1 rfl).cell 5
  have c1 : w6.cell? ⟨g + 1, 1, none⟩ = some (.int .i64 y1) := (HX.out.at_ 1 rfl).cell 1
  go_simp
  go_upto_region 29 with (first
   |(go_at_call 198; refine (HRN.out _).mono ?_; rintro e w7 ⟨rfl, f2⟩; have HX := lh (HX.out.fresh f2); have HL2 := lh (HL2.out.touch f2 (fun _ _ e => e)); have HN := lh (HN.out.touch f2 (fun _ _ e => e)); clear f2)
   |(refine wpList_storeB rfl _ (.tmp 131) (.tmp 130) rfl (g + 1) 29 (by rfl) (s12 y5 y5 (y5 + y1) y1) (by rfl) (HX.out.at_ 1 rfl) (Nat.le_of_ble_eq_true rfl) s12I (by simp [s12, Value.oneCell']) ?_; intro w8 hB ht; have HL2 := lh (HL2.out.touch ht (fun ad e e2 => HL2.out.blk_ne (HX.out.at_ 1 rfl) (show intE.e ≠ 40 by decide) ad e e2)); have HN := lh (HN.out.touch ht (fun ad e e2 => HN.out.blk_ne (HX.out.at_ 1 rfl) (show rp06E.e ≠ 40 by decide) ad e e2)); have HX := lh (HX.out.put 1 rfl (cs := (hbZ y0 y1 y2 y3 y4 y5 T cT s L2 cL2 A c d).cells) (hB.eq_cells rfl) ht); clear hB ht))
  clear c5 c1
  have HLN := lh (show (Rf.ons tk (Rf.offs [0, 0, 0, 0, 0] [0]) []).length = 5 by rw [Rf.ons_len, Rf.offs_len]; rfl)
  go_upto_region 30 with (first
   |(refine wpList_loadB rfl _ (.tmp 132) rfl (g + 1) 15 (by rfl) [.slice T 5 cT, .slice L2 5 cL2] ((HX.out.at_ 1 rfl).range_at 15 (sub_at 15 rfl)) Tryz.underlying31 rfl p15I ?_)
   |(go_at_call 199; refine (ref_begin T L2 cT cL2 tk _ _ HTK.out HLN.out (HT.out.touch HX.out.ff (fun _ _ e => e)) HL2.out).mono ?_; rintro e w9 ⟨L3, cL3, rfl, s2, f2⟩; have HX := lh (HX.out.fresh f2); have HN := lh (HN.out.touch f2 (fun _ _ e => e)); clear s2 f2)
   |(refine wpList_storeB rfl _ (.tmp 135) (.tmp 134) rfl (g + 1) 15 (by rfl) [.slice T 5 cT, .slice L3 5 cL3] (by rfl) (HX.out.at_ 1 rfl) (Nat.le_of_ble_eq_true rfl) p15I (by simp [Value.oneCell']) ?_; intro wa hB ht; have HN := lh (HN.out.touch ht (fun ad e e2 => HN.out.blk_ne (HX.out.at_ 1 rfl) (show rp06E.e ≠ 40 by decide) ad e e2)); have HX := lh (HX.out.put 1 rfl (cs := (hbZ y0 y1 y2 y3 y4 y5 T cT s L3 cL3 A c d).cells) (hB.eq_cells rfl) ht); clear hB ht))
  have r3 : wa.cell? ⟨g + 1 + 1, 3, none⟩ = some (.bool false) := (HX.out.at_ 2 rfl).cell 3
  have r2 : wa.cell? ⟨g + 1 + 1, 2, none⟩ = some (.bool true) := (HX.out.at_ 2 rfl).cell 2
  have c38 : wa.cell? ⟨g + 1, 38, none⟩ = some (.bool false) := (HX.out.at_ 1 rfl).cell 38
  have f38 : wa.frozen? ⟨g + 1, 38, none⟩ = false := (HX.out.at_ 1 rfl).frozen 38
  go_upto_region 32 with (fail)
  have HN2 := lh (HN.out.touch (Touch.set1 wa (g + 1) 38 (.bool false)) (fun ad e e2 => HN.out.blk_ne (HX.out.at_ 1 rfl) (show rp06E.e ≠ 40 by decide) ad e e2))
  have HX2 := lh (HX.out.put1 1 rfl 38 (.bool false))
  generalize wa.setCell ⟨g + 1, 38, none⟩ (.bool false) = wb at *
  clear r3 r2 c38 f38
  have c39 : wb.cell? ⟨g + 1, 39, none⟩ = some (.bool false) := (HX2.out.at_ 1 rfl).cell 39
  have f39 : wb.frozen? ⟨g + 1, 39, none⟩ = false := (HX2.out.at_ 1 rfl).frozen 39
  go_upto_region 33 with (fail)
  have HN3 := lh (HN2.out.touch (Touch.set1 wb (g + 1) 39 (.bool false)) (fun ad e e2 => HN2.out.blk_ne (HX2.out.at_ 1 rfl) (show rp06E.e ≠ 40 by decide) ad e e2))
  have HX3 := lh (HX2.out.put1 1 rfl 39 (.bool false))
  generalize wb.setCell ⟨g + 1, 39, none⟩ (.bool false) = wc at *
  clear c39 f39 HX HX2 HN HN2
  have HX : Hid (FB (FF w) [g, g + 1, g + 1 + 1, g + 1 + 1 + 1] w wc [⟨g, 40, z.cells⟩, ⟨g + 1, 40, (hbZ y0 y1 y2 y3 y4 y5 T cT s L3 cL3 A c d).cells⟩, ⟨g + 1 + 1, 217, rrCells P (rqR m n)⟩, ⟨g + 1 + 1 + 1, 40, rnZ⟩]) := HX3.out
  have HN := HN3
  clear HX3 HN3
  refine wp_region_lit ?_
  refine ldN rfl (.tmp 4) rfl (by rfl) (y := hbZ y0 y1 y2 y3 y4 y5 T cT s L3 cL3 A c d) (HX.out.at_ 1 rfl) ?_
  go_wp2_with (refine stN rfl (.tmp 6) (.tmp 144) rfl (by rfl) (hbZ y0 y1 y2 y3 y4 y5 T cT s L3 cL3 A c d) (by rfl) (HX.out.at_ 3 rfl) rfl ?_; intro w9 hB ht; have HN := lh (HN.out.touch ht (fun ad e e2 => HN.out.blk_ne (HX.out.at_ 3 rfl) (show rp06E.e ≠ 40 by decide) ad e e2)); have HX := lh (HX.out.put 3 rfl hB ht); clear hB ht)
  exact bodyPost_ret (v := .tuple #[.agg (hbZ y0 y1 y2 y3 y4 y5 T cT s L3 cL3 A c d).cells.toArray, .slice (some ⟨g + 1 + 1 + 1 + 1, 0, none⟩) 0 0]) (results_ct Tryz.results125 _ (by rfl) (HX.out.at_ 3 rfl).range Tryz.underlying40 rfl rnI) rfl ⟨L3, cL3, A, c, ⟨_, _, rfl⟩, ⟨HN.out, HADN.out⟩, HX.out.ff⟩
set_option maxRecDepth 20000
set_option linter.constructorNameAsVariable false

def pdL (n : Int) : List Value := [.int .i64 1, .int .i64 5, .int .i64 n, .int .i64 0, .int .i64 0, .slice none 0 0, .bool false, .string { data := #[] }]
theorem rhear_bgn (y0 y1 y2 y3 y4 y5 : Int) (T : Option Addr) (cT : Nat) (m c n : Int) (L : Option Addr) (cL : Nat) (w : World) :
  Calls Tryz.prog 154 #[.agg (hb0 y0 y1 y2 y3 y4 y5 T cT (cnI m c) L cL).cells.toArray, .agg (pdL n).toArray] w fun e w' => ∃ A d, e = .returned (.tuple #[.agg (hb0 y0 y1 y2 y3 y4 y5 T cT (cnB m c n) L cL).cells.toArray, .slice A 1 d]) ∧ Nw rs16E w.heap.size w' A d [Cn.sig 1 false Cn.no] ∧ Fresh w w' := by
 obtain ⟨x, hx⟩ := xq (hb0 y0 y1 y2 y3 y4 y5 T cT (cnI m c) L cL)
 have HRD := lh (rready_any16 x false (by rw [hx]; rfl))
 have HRV := lh (rrecv_bgn m c n)
 have HBR := lh (rbring_bgn x (hb0 y0 y1 y2 y3 y4 y5 T cT (cnB m c n) L cL))
 have HXX := lh hx
 rw [<- hx]
 clear hx
 obtain ⟨w1, hw1⟩ := xq (((w.alloc (.cells x.cells.toArray 40)).alloc (.cells (pdL n).toArray 139)).alloc (.cells rnZ.toArray 40))
 have HX : Hid (FB (FF w) [w.heap.size, w.heap.size + 1, w.heap.size + 1 + 1] w w1 [⟨w.heap.size, 40, x.cells⟩, ⟨w.heap.size + 1, 139, pdL n⟩, ⟨w.heap.size + 1 + 1, 40, rnZ⟩]) := by rw [hw1]; exact ((((FB.nil w (fun k e => e)).al _ _ _ (by simp)).al _ _ _ (by simp)).al _ rnZ _ (by simp))
 unfold rnZ at hw1
 go_enter Tryz.func154, Tryz.ntmps154
 go_upto_region 1 with (fail)
 rw [<- hw1]
 clear hw1
 generalize hg : w.heap.size = g at *
 have k0 : w1.cell? ⟨g + 1, 0, none⟩ = some (.int .i64 1) := (HX.out.at_ 1 rfl).cell 0
 go_upto_region 3 with (fail)
 refine wp_region_lit ?_
 refine ldN rfl (.tmp 2) rfl (by rfl) (y := x) (HX.out.at_ 0 rfl) ?_
 go_wp2_with fail
 refine (HRD.out _).mono ?_
 rintro e wa ⟨rfl, f3⟩
 have HX := lh (HX.out.fresh f3)
 have k0 : wa.cell? ⟨g + 1, 0, none⟩ = some (.int .i64 1) := (HX.out.at_ 1 rfl).cell 0
 clear f3
 simp only
 go_upto_region 13 with (fail)
 refine wp_region_lit ?_
 refine ldN rfl (.tmp 2) rfl (by rfl) (y := x) (HX.out.at_ 0 rfl) ?_
 go_wp2_with fail
 refine (HRD.out _).mono ?_
 rintro e wb ⟨rfl, f3⟩
 have HX := lh (HX.out.fresh f3)
 have k0 : wb.cell? ⟨g + 1, 0, none⟩ = some (.int .i64 1) := (HX.out.at_ 1 rfl).cell 0
 clear f3
 simp only
 go_upto_region 21 with (fail)
 refine wp_region_lit ?_
 refine ldN rfl (.tmp 2) rfl (by rfl) (y := x) (HX.out.at_ 0 rfl) ?_
 go_wp2_with fail
 refine (HRD.out _).mono ?_
 rintro e wc ⟨rfl, f3⟩
 have HX := lh (HX.out.fresh f3)
 have k0 : wc.cell? ⟨g + 1, 0, none⟩ = some (.int .i64 1) := (HX.out.at_ 1 rfl).cell 0
 clear f3
 simp only
 go_upto_region 34 with (fail)
 refine wp_region_lit ?_
 refine ldN rfl (.tmp 2) rfl (by rfl) (y := x) (HX.out.at_ 0 rfl) ?_
 go_upto_region 35 with (refine stN rfl (.tmp 16) (.tmp 160) rfl (by rfl) x (by rfl) ((HX.out.al 40 rnZ wc.heap.size rfl).at_ 3 rfl) rfl ?_; intro wd hB ht; have HX := lh ((HX.out.al 40 rnZ wc.heap.size rfl).put 3 rfl hB ht); clear hB ht)
 generalize wc.heap.size = h at *
 have HX2 : Hid (FB (FF w) [g, g + 1, g + 1 + 1, h] w wd [⟨g, 40, (hb0 y0 y1 y2 y3 y4 y5 T cT (cnI m c) L cL).cells⟩, ⟨g + 1, 139, pdL n⟩, ⟨g + 1 + 1, 40, rnZ⟩, ⟨h, 40, x.cells⟩]) := by
  have := HX.out
  rw [show (hb0 y0 y1 y2 y3 y4 y5 T cT (cnI m c) L cL).cells = x.cells by rw [HXX.out]]
  exact this
 clear HX k0 HRD
 have HX := HX2
 clear HX2
 have k0 : wd.cell? ⟨g + 1, 0, none⟩ = some (.int .i64 1) := (HX.out.at_ 1 rfl).cell 0
 have k1 : wd.cell? ⟨g + 1, 1, none⟩ = some (.int .i64 5) := (HX.out.at_ 1 rfl).cell 1
 have k2 : wd.cell? ⟨g + 1, 2, none⟩ = some (.int .i64 n) := (HX.out.at_ 1 rfl).cell 2
 have k6 : wd.cell? ⟨g + 1, 6, none⟩ = some (.bool false) := (HX.out.at_ 1 rfl).cell 6
 have k7 : wd.cell? ⟨g + 1, 7, none⟩ = some (.string { data := #[] }) := (HX.out.at_ 1 rfl).cell 7
 go_wp2_with (refine wpList_loadB rfl _ (.tmp 162) rfl g 7 (by rfl) (rcCells (cnI m c)) ((HX.out.at_ 0 rfl).range_at 7 (sub_at 7 rfl)) Tryz.underlying29 rfl rcI ?_)
 refine (HRV.out _).mono ?_
 rintro e we ⟨P, rfl, hr, ht⟩
 have HX := lh (HX.out.fresh (ht.mono fun k hk e => e hk))
 have HS := lh hr.sigs
 clear ht hr k0 k1 k2 k6 k7
 simp only
 go_upto_region 36 with (first
  |(refine stC rfl (.tmp 17) (.tmp 176) rfl (by rfl) (cnB m c n) (by rfl) (((HX.out.al 29 rcZ we.heap.size rfl).al 217 rrZ (we.heap.size + 1) (by simp)).at_ 4 rfl) rfl ?_; intro wf hB ht; have HS := lh (((HS.out.alloc _).alloc _).touch ht (fun ad e e2 => by have := HS.out.lt ad e; have e2 : ad.block = we.heap.size := e2; omega)); have HX := lh (((HX.out.al 29 rcZ we.heap.size rfl).al 217 rrZ (we.heap.size + 1) (by simp)).put 4 rfl hB ht); clear hB ht)
  |(refine stR rfl (.tmp 18) (.tmp 177) rfl (by rfl) P bgR (by rfl) (HX.out.at_ 5 rfl) rfl ?_; intro wg hB ht; have HS := lh (HS.out.touch ht (fun ad e e2 => HS.out.blk_ne (HX.out.at_ 5 rfl) (show rsigE.e ≠ 217 by decide) ad e e2)); have HX := lh (HX.out.put 5 rfl hB ht); clear hB ht))
 generalize we.heap.size = p at *
 have HX2 : Hid (FB (FF w) [g, g + 1, g + 1 + 1, h, p, p + 1] w wg [⟨g, 40, (hb0 y0 y1 y2 y3 y4 y5 T cT (cnI m c) L cL).cells⟩, ⟨g + 1, 139, pdL n⟩, ⟨g + 1 + 1, 40, rnZ⟩, ⟨h, 40, x.cells⟩, ⟨p, 29, rcCells (cnB m c n)⟩, ⟨p + 1, 217, rrCells P bgR⟩]) := HX.out
 clear HX
 have HX := HX2
 clear HX2
 refine wp_region_lit ?_
 refine ldC rfl (.tmp 17) rfl (by rfl) (s := cnB m c n) (HX.out.at_ 4 rfl) ?_
 go_upto_region 37 with (refine wpList_storeB rfl _ (.tmp 179) (.tmp 178) rfl g 7 (by rfl) (rcCells (cnB m c n)) (by rfl) (HX.out.at_ 0 rfl) (Nat.le_of_ble_eq_true rfl) rcI (rcO _) ?_; intro wh hB ht; have HS := lh (HS.out.touch ht (fun ad e e2 => HS.out.blk_ne (HX.out.at_ 0 rfl) (show rsigE.e ≠ 40 by decide) ad e e2)); have HX := lh (HX.out.put 0 rfl (cs := (hb0 y0 y1 y2 y3 y4 y5 T cT (cnB m c n) L cL).cells) (hB.eq_cells rfl) ht); clear hB ht)
 refine wp_region_lit ?_
 refine ldN rfl (.tmp 16) rfl (by rfl) (y := x) (HX.out.at_ 3 rfl) ?_
 refine ldN rfl (.tmp 2) rfl (by rfl) (y := hb0 y0 y1 y2 y3 y4 y5 T cT (cnB m c n) L cL) (HX.out.at_ 0 rfl) ?_
 refine ldR rfl (.tmp 18) rfl (by rfl) (P := P) (r := bgR) (HX.out.at_ 5 rfl) ?_
 go_wp2_with fail
 refine (HBR.out P _ HS.out).mono ?_
 rintro e wi ⟨A, d, rfl, ⟨hr, had⟩, hf⟩
 have HAD : Hid (∀ ad, A = some ad -> w.heap.size <= ad.block) := fun ad e => Nat.le_trans HX.out.ff.size (had ad e)
 clear had
 have HX := lh (HX.out.fresh hf)
 have HA := lh hr
 clear hf hr
 simp only
 go_wp2_with (refine stN rfl (.tmp 4) (.tmp 184) rfl (by rfl) (hb0 y0 y1 y2 y3 y4 y5 T cT (cnB m c n) L cL) (by rfl) (HX.out.at_ 2 rfl) rfl ?_; intro wj hB ht; have HA2 := lh (HA.out.touch ht (fun ad e e2 => HA.out.blk_ne (HX.out.at_ 2 rfl) (show rs16E.e ≠ 40 by decide) ad e e2)); have HX := lh (HX.out.put 2 rfl hB ht); clear hB ht)
 exact bodyPost_ret (v := .tuple #[.agg (hb0 y0 y1 y2 y3 y4 y5 T cT (cnB m c n) L cL).cells.toArray, .slice A 1 d]) (results_ct Tryz.results154 _ (by rfl) (HX.out.at_ 2 rfl).range Tryz.underlying40 rfl rnI) rfl ⟨A, d, rfl, ⟨HA2.out, fun ad e => by have := HAD.out ad e; omega⟩, HX.out.ff⟩
set_option maxRecDepth 20000
set_option linter.constructorNameAsVariable false

theorem rp06I : (Tryz.prog.info? 139).map (·.size) = some 8 := by kernel_rfl
theorem rrecv16_bgn (y0 y1 y2 y3 y4 y5 : Int) (T : Option Addr) (cT : Nat) (m c n : Int) (L : Option Addr) (cL : Nat) (w : World) :
  Calls Tryz.prog 67 #[.agg (hb0 y0 y1 y2 y3 y4 y5 T cT (cnI m c) L cL).cells.toArray, .agg (pdL n).toArray] w fun e w' => ∃ A d, e = .returned (.tuple #[.agg (hb0 y0 y1 y2 y3 y4 y5 T cT (cnB m c n) L cL).cells.toArray, .slice A 1 d]) ∧ Nw rs16E w.heap.size w' A d [Cn.sig 1 false Cn.no] ∧ Fresh w w' := by
 have HHR := lh (rhear_bgn y0 y1 y2 y3 y4 y5 T cT m c n L cL)
 obtain ⟨x, hx⟩ := xq (hb0 y0 y1 y2 y3 y4 y5 T cT (cnI m c) L cL)
 obtain ⟨y, hy⟩ := xq (hb0 y0 y1 y2 y3 y4 y5 T cT (cnB m c n) L cL)
 rw [<- hx, <- hy] at HHR ⊢
 clear hx hy
 obtain ⟨w1, hw1⟩ := xq (((w.alloc (.cells x.cells.toArray 40)).alloc (.cells (pdL n).toArray 139)).alloc (.cells rnZ.toArray 40))
 have HX : Hid (FB (FF w) [w.heap.size, w.heap.size + 1, w.heap.size + 1 + 1] w w1 [⟨w.heap.size, 40, x.cells⟩, ⟨w.heap.size + 1, 139, pdL n⟩, ⟨w.heap.size + 1 + 1, 40, rnZ⟩]) := by rw [hw1]; exact ((((FB.nil w (fun k e => e)).al _ _ _ (by simp)).al _ _ _ (by simp)).al _ rnZ _ (by simp))
 unfold rnZ at hw1
 go_enter Tryz.func67, Tryz.ntmps67
 go_upto_region 1 with (fail)
 rw [<- hw1]
 clear hw1
 generalize hg : w.heap.size = g at *
 refine wp_region_lit ?_
 refine ldN rfl (.tmp 2) rfl (by rfl) (y := x) (HX.out.at_ 0 rfl) ?_
 refine wpList_loadB rfl _ (.tmp 3) rfl (g + 1) 0 (by rfl) (pdL n) (HX.out.at_ 1 rfl).range Tryz.underlying139 rfl rp06I ?_
 go_wp2_with fail
 refine (HHR.out _).mono ?_
 rintro e wa ⟨A, d, rfl, ⟨hs, had⟩, f3⟩
 have HAD : Hid (∀ ad, A = some ad -> w.heap.size <= ad.block) := fun ad e => Nat.le_trans HX.out.ff.size (had ad e)
 clear had
 have HX := lh (HX.out.fresh f3)
 have HS := lh hs
 clear f3 hs
 simp only
 go_upto_region 2 with (refine stN rfl (.tmp 2) (.tmp 11) rfl (by rfl) y (by rfl) (HX.out.at_ 0 rfl) rfl ?_; intro wb hB ht; have HS := lh (HS.out.touch ht (fun ad e e2 => HS.out.blk_ne (HX.out.at_ 0 rfl) (show rs16E.e ≠ 40 by decide) ad e e2)); have HX := lh (HX.out.put 0 rfl hB ht); clear hB ht)
 refine wp_region_lit ?_
 refine ldN rfl (.tmp 2) rfl (by rfl) (y := y) (HX.out.at_ 0 rfl) ?_
 go_wp2_with fail
 refine (rcredit_any16 y A 1 d _).mono ?_
 rintro e wc ⟨rfl, f3⟩
 have HX := lh (HX.out.fresh f3)
 have HS := lh (HS.out.touch f3 (fun _ _ e => e))
 clear f3
 simp only
 go_wp2_with (refine stN rfl (.tmp 4) (.tmp 16) rfl (by rfl) y (by rfl) (HX.out.at_ 2 rfl) rfl ?_; intro wd hB ht; have HS := lh (HS.out.touch ht (fun ad e e2 => HS.out.blk_ne (HX.out.at_ 2 rfl) (show rs16E.e ≠ 40 by decide) ad e e2)); have HX := lh (HX.out.put 2 rfl hB ht); clear hB ht)
 exact bodyPost_ret (v := .tuple #[.agg y.cells.toArray, .slice A 1 d]) (results_ct Tryz.results67 _ (by rfl) (HX.out.at_ 2 rfl).range Tryz.underlying40 rfl rnI) rfl ⟨A, d, rfl, ⟨HS.out, fun ad e => by have := HAD.out ad e; omega⟩, HX.out.ff⟩
theorem rcheck_acc (w : World) : Calls Tryz.prog 119 #[.int .i64 2, .string { data := #[] }, .int .i64 0] w fun e w' => e = .returned (.int .i64 0) ∧ w = w' := by
 go_enter Tryz.func119, Tryz.ntmps119
 go_wp2_with fail
 all_goals first
  |(go_ret; exact ⟨rfl, rfl⟩)
  |(trace_state; sorry)
theorem rreq16_acc (y0 y1 y2 y3 y4 y5 : Int) (T : Option Addr) (cT : Nat) (tk : List Int) (L : Option Addr) (cL : Nat) (m c n d : Int) (w : World) (n0 : Nat) (hn0 : n0 <= w.heap.size) (hT : Sl intE w T cT tk) (htk : tk.length = 5) (hL : Sl intE w L cL [0, 0, 0, 0, 0])
  (hy : 0 <= y5 ∧ y5 < 16777216) (h1 : 1 <= y1 ∧ y1 <= 64) (h2 : 1 <= y2 ∧ y2 <= 256) (h4 : 1 <= y4 ∧ y4 <= 256) (hd : (n - y5) % 16777216 = d) (hd2 : d <= 8388608) :
  Calls Tryz.prog 56 #[.agg (hb0 y0 y1 y2 y3 y4 y5 T cT (cnB m c n) L cL).cells.toArray, .int .i64 2, .string { data := #[] }, .int .i64 0] w fun e w' => ∃ L' cL' A cA A0 c0, e = .returned (.tuple #[.agg (hbZ y0 y1 y2 y3 y4 y5 T cT (cnR m c n) L' cL' A cA d).cells.toArray, .slice A0 0 c0, .int .i64 0]) ∧ Nw rp06E n0 w' A cA [bgak c] ∧ Fresh w w' := by
 obtain ⟨x, hx⟩ := xq (hb0 y0 y1 y2 y3 y4 y5 T cT (cnB m c n) L cL)
 have HRQ := lh (rreq_acc m c n)
 have HBR := lh (fun P w0 hw0 h0 hT0 hL0 => rbring_acc x y0 y1 y2 y3 y4 y5 T cT tk (cnR m c n) L cL P c n d w0 n0 hw0 h0 hT0 htk hL0 hy h1 h2 h4 hd hd2)
 have HN0 : Hid (n0 <= w.heap.size) := hn0
 clear hn0
 have HT := lh hT
 have HL := lh hL
 have HXX := lh hx
 have HMY := lh (refMay_any 3 2)
 rw [show Ru.refMay 3 2 = true by decide] at HMY
 rw [<- hx]
 have h9 : x.s.state = 3 := by rw [hx]; rfl
 clear hx hT hL htk hy h1 h2 h4 hd hd2
 obtain ⟨w1, hw1⟩ := xq ((w.alloc (.cells x.cells.toArray 40)).alloc (.cells rnZ.toArray 40))
 have HX : Hid (FB (FF w) [w.heap.size, w.heap.size + 1] w w1 [⟨w.heap.size, 40, x.cells⟩, ⟨w.heap.size + 1, 40, rnZ⟩]) := by rw [hw1]; exact (((FB.nil w (fun k e => e)).al _ _ _ (by simp)).al _ rnZ _ (by simp))
 unfold rnZ at hw1
 go_enter Tryz.func56, Tryz.ntmps56
 go_upto_region 1 with (fail)
 rw [<- hw1]
 clear hw1
 generalize hg : w.heap.size = g at *
 go_wp2_with fail
 refine (rcheck_acc _).mono ?_
 rintro e w2 ⟨rfl, e2⟩
 rw [<- e2]
 clear e2 w2
 have c9 : w1.cell? ⟨g, 9, none⟩ = some (.int .i64 3) := by rw [<- h9]; exact (HX.out.at_ 0 rfl).cell 9
 simp only
 go_upto_region 4 with (fail)
 go_wp2_with fail
 refine (HMY.out _).mono ?_
 rintro e w2 ⟨rfl, e2⟩
 rw [<- e2]
 clear e2 w2 c9 h9
 simp only
 go_upto_region 6 with (fail)
 refine wp_region_lit ?_
 refine ldN rfl (.tmp 4) rfl (by rfl) (y := x) (HX.out.at_ 0 rfl) ?_
 go_upto_region 7 with (refine stN rfl (.tmp 12) (.tmp 36) rfl (by rfl) x (by rfl) ((HX.out.al 40 rnZ w1.heap.size rfl).at_ 2 rfl) rfl ?_; intro wd hB ht; have HX := lh ((HX.out.al 40 rnZ w1.heap.size rfl).put 2 rfl hB ht); clear hB ht)
 generalize w1.heap.size = h at *
 have HX2 : Hid (FB (FF w) [g, g + 1, h] w wd [⟨g, 40, (hb0 y0 y1 y2 y3 y4 y5 T cT (cnB m c n) L cL).cells⟩, ⟨g + 1, 40, rnZ⟩, ⟨h, 40, x.cells⟩]) := by
  have := HX.out
  rw [show (hb0 y0 y1 y2 y3 y4 y5 T cT (cnB m c n) L cL).cells = x.cells by rw [HXX.out]]
  exact this
 clear HX HMY
 have HX := HX2
 clear HX2
 go_upto_region 8 with (fail)
 obtain ⟨we, hwe⟩ := xq (wd.alloc (.cells #[] 143))
 have HX2 : Hid (FB (FF w) [g, g + 1, h] w we [⟨g, 40, (hb0 y0 y1 y2 y3 y4 y5 T cT (cnB m c n) L cL).cells⟩, ⟨g + 1, 40, rnZ⟩, ⟨h, 40, x.cells⟩]) := by rw [hwe]; exact HX.out.fresh ((Touch.refl _ _).alloc _)
 rw [<- hwe]
 clear hwe HX
 have HX := HX2
 clear HX2
 generalize wd.heap.size = hs at *
 go_upto_region 9 with (fail)
 refine wp_region_lit ?_
 go_wp2_with (refine wpList_loadB rfl _ (.tmp 40) rfl g 7 (by rfl) (rcCells (cnB m c n)) ((HX.out.at_ 0 rfl).range_at 7 (sub_at 7 rfl)) Tryz.underlying29 rfl rcI ?_)
 refine (HRQ.out _).mono ?_
 rintro e wf ⟨P, rfl, hr, ht⟩
 have HX := lh (HX.out.fresh ht)
 have HS := lh hr.units
 clear ht hr
 simp only
 go_upto_region 10 with (first
  |(refine stC rfl (.tmp 18) (.tmp 45) rfl (by rfl) (cnR m c n) (by rfl) (((HX.out.al 29 rcZ wf.heap.size rfl).al 217 rrZ (wf.heap.size + 1) (by simp)).at_ 3 rfl) rfl ?_; intro wh hB ht; have HS := lh (((HS.out.alloc _).alloc _).touch ht (fun ad e e2 => by have := HS.out.lt ad e; have e2 : ad.block = wf.heap.size := e2; omega)); have HX := lh (((HX.out.al 29 rcZ wf.heap.size rfl).al 217 rrZ (wf.heap.size + 1) (by simp)).put 3 rfl hB ht); clear hB ht)
  |(refine stR rfl (.tmp 19) (.tmp 46) rfl (by rfl) P (rqR c n) (by rfl) (HX.out.at_ 4 rfl) rfl ?_; intro wi hB ht; have HS := lh (HS.out.touch ht (fun ad e e2 => HS.out.blk_ne (HX.out.at_ 4 rfl) (show runitE.e ≠ 217 by decide) ad e e2)); have HX := lh (HX.out.put 4 rfl hB ht); clear hB ht))
 generalize wf.heap.size = p at *
 have HX2 : Hid (FB (FF w) [g, g + 1, h, p, p + 1] w wi [⟨g, 40, (hb0 y0 y1 y2 y3 y4 y5 T cT (cnB m c n) L cL).cells⟩, ⟨g + 1, 40, rnZ⟩, ⟨h, 40, x.cells⟩, ⟨p, 29, rcCells (cnR m c n)⟩, ⟨p + 1, 217, rrCells P (rqR c n)⟩]) := HX.out
 clear HX
 have HX := HX2
 clear HX2
 refine wp_region_lit ?_
 refine ldC rfl (.tmp 18) rfl (by rfl) (s := cnR m c n) (HX.out.at_ 3 rfl) ?_
 go_upto_region 11 with (refine wpList_storeB rfl _ (.tmp 49) (.tmp 48) rfl g 7 (by rfl) (rcCells (cnR m c n)) (by rfl) (HX.out.at_ 0 rfl) (Nat.le_of_ble_eq_true rfl) rcI (rcO _) ?_; intro wj hB ht; have HS := lh (HS.out.touch ht (fun ad e e2 => HS.out.blk_ne (HX.out.at_ 0 rfl) (show runitE.e ≠ 40 by decide) ad e e2)); have HX := lh (HX.out.put 0 rfl (cs := (hb0 y0 y1 y2 y3 y4 y5 T cT (cnR m c n) L cL).cells) (hB.eq_cells rfl) ht); clear hB ht)
 refine wp_region_lit ?_
 refine ldN rfl (.tmp 12) rfl (by rfl) (y := x) (HX.out.at_ 2 rfl) ?_
 refine ldN rfl (.tmp 4) rfl (by rfl) (y := hb0 y0 y1 y2 y3 y4 y5 T cT (cnR m c n) L cL) (HX.out.at_ 0 rfl) ?_
 refine ldR rfl (.tmp 19) rfl (by rfl) (P := P) (r := rqR c n) (HX.out.at_ 4 rfl) ?_
 go_wp2_with fail
 refine (HBR.out P _ (by have h1 := HX.out.ff.size; have h2 := HN0.out; omega) HS.out (HT.out.touch HX.out.ff (fun _ _ e => e)) (HL.out.touch HX.out.ff (fun _ _ e => e))).mono ?_
 rintro e wk ⟨L', cL', A, cA, A0, c0, rfl, hs, hf⟩
 have HX := lh (HX.out.fresh hf)
 have HA := lh hs.1
 have HADN := lh hs.2
 clear hf hs HS HBR HRQ
 simp only
 obtain ⟨y, hy⟩ := xq (hbZ y0 y1 y2 y3 y4 y5 T cT (cnR m c n) L' cL' A cA d)
 rw [<- hy]
 have HYY := lh hy
 clear hy
 go_upto_region 33 with (refine stN rfl (.tmp 4) (.tmp 55) rfl (by rfl) y (by rfl) (HX.out.at_ 0 rfl) rfl ?_; intro wl hB ht; have HA := lh (HA.out.touch ht (fun ad e e2 => HA.out.blk_ne (HX.out.at_ 0 rfl) (show rp06E.e ≠ 40 by decide) ad e e2)); have HX := lh (HX.out.put 0 rfl hB ht); clear hB ht)
 refine wp_region_lit ?_
 refine ldN rfl (.tmp 4) rfl (by rfl) (y := y) (HX.out.at_ 0 rfl) ?_
 go_wp2_with fail
 refine (rcredit_any16 y A0 0 c0 _).mono ?_
 rintro e wm ⟨rfl, f3⟩
 have HX := lh (HX.out.fresh f3)
 have HA := lh (HA.out.touch f3 (fun _ _ e => e))
 clear f3
 simp only
 go_upto_region 34 with (refine stN rfl (.tmp 4) (.tmp 133) rfl (by rfl) y (by rfl) (HX.out.at_ 0 rfl) rfl ?_; intro wn hB ht; have HA := lh (HA.out.touch ht (fun ad e e2 => HA.out.blk_ne (HX.out.at_ 0 rfl) (show rp06E.e ≠ 40 by decide) ad e e2)); have HX := lh (HX.out.put 0 rfl hB ht); clear hB ht)
 refine wp_region_lit ?_
 refine ldN rfl (.tmp 4) rfl (by rfl) (y := y) (HX.out.at_ 0 rfl) ?_
 go_wp2_with (refine stN rfl (.tmp 8) (.tmp 135) rfl (by rfl) y (by rfl) (HX.out.at_ 1 rfl) rfl ?_; intro wo hB ht; have HA := lh (HA.out.touch ht (fun ad e e2 => HA.out.blk_ne (HX.out.at_ 1 rfl) (show rp06E.e ≠ 40 by decide) ad e e2)); have HX := lh (HX.out.put 1 rfl hB ht); clear hB ht)
 exact bodyPost_ret (v := .tuple #[.agg y.cells.toArray, .slice A0 0 c0, .int .i64 0]) (results_ctt Tryz.results56 _ (by rfl) (HX.out.at_ 1 rfl).range Tryz.underlying40 rfl rnI) rfl ⟨L', cL', A, cA, ⟨A0, c0, by rw [HYY.out]⟩, ⟨HA.out, HADN.out⟩, HX.out.ff⟩
set_option maxRecDepth 20000
set_option linter.constructorNameAsVariable false

def pdZ : List Value := [.int .i64 0, .int .i64 0, .int .i64 0, .int .i64 0, .int .i64 0, .slice none 0 0, .bool false, .string { data := #[] }]
def pdC (u : Cn.Pd) : List Value := rp06E.enc u
theorem pdO (u : Cn.Pd) : ∀ v ∈ pdC u, v.oneCell' = true := by simp [pdC, rp06E, Value.oneCell']
def nxC (x : Rn) (A : Option Addr) (c : Nat) : Rn := { x with C := A, nC := 0, cC := c }
def nxslot (i : Nat) : Nat := [31, 32, 1002, 1003, 4].getD i 2000
def nxidx (k : Nat) : Nat := if k = 31 then 0 else if k = 32 then 1 else if k = 4 then 4 else 0
def nxD : List Nat := [4, 31, 32]
def nxval (y : Rn) (u : Cn.Pd) (_b : Unit) (i : Nat) : Value := [.agg y.cells.toArray, .agg (pdC u).toArray, undef, undef, .bool true].getD i undef
def nxWD (w : World) (g h p : Nat) (y : Rn) (u : Cn.Pd) (_b : Unit) (d : Nat -> Bool) (W : World) : Prop :=
 FB (FF w) [g, g + 1, g + 1 + 1, h, p] w W [⟨g, 40, y.cells⟩, ⟨g + 1, 40, if d 2 = true then y.cells else rnZ⟩, ⟨g + 1 + 1, 139, if d 3 = true then pdC u else pdZ⟩, ⟨h, 139, pdZ⟩, ⟨p, 139, pdC u⟩]
theorem nxWD.upd {w : World} {g h p : Nat} {y : Rn} {u : Cn.Pd} {b : Unit} {d : Nat -> Bool} {W W' : World} (H : nxWD w g h p y u b d W) {i : Nat} (h1 : i ≠ 2) (h2 : i ≠ 3) (hf : Fresh W W') : nxWD w g h p y u b (Dag.upd d i true) W' := by
 unfold nxWD
 rw [Dag.upd_far _ _ (Ne.symm h1), Dag.upd_far _ _ (Ne.symm h2)]
 exact H.fresh hf
theorem rnext16_ctl (x : Rn) (A : Option Addr) (c : Nat) (u : Cn.Pd) (w : World) (hC : x.C = A) (hn : x.nC = 1) (hc : x.cC = c) (hs : Sl rp06E w A c [u]) :
  Calls Tryz.prog 59 #[.agg x.cells.toArray] w fun e w' => ∃ A' c', e = .returned (.tuple #[.agg (nxC x A' c').cells.toArray, .agg (pdC u).toArray, .bool true]) ∧ Fresh w w' := by
 have HSL := lh hs
 have hc1 : 1 <= c := hs.1
 clear hs
 obtain ⟨w1, hw1⟩ := xq (((w.alloc (.cells x.cells.toArray 40)).alloc (.cells rnZ.toArray 40)).alloc (.cells pdZ.toArray 139))
 have HX : Hid (FB (FF w) [w.heap.size, w.heap.size + 1, w.heap.size + 1 + 1] w w1 [⟨w.heap.size, 40, x.cells⟩, ⟨w.heap.size + 1, 40, rnZ⟩, ⟨w.heap.size + 1 + 1, 139, pdZ⟩]) := by rw [hw1]; exact ((((FB.nil w (fun k e => e)).al _ _ _ (by simp)).al _ rnZ _ (by simp)).al _ pdZ _ (by simp))
 unfold rnZ pdZ at hw1
 go_enter Tryz.func59, Tryz.ntmps59
 go_upto_region 1 with (fail)
 rw [<- hw1]
 clear hw1
 generalize hg : w.heap.size = g at *
 go_upto_region 2 with (refine wpList_storeB rfl _ (.tmp 5) (.tmp 18) rfl w1.heap.size 0 (by rfl) pdZ (by rfl) ((HX.out.al 139 pdZ w1.heap.size rfl).at_ 3 rfl) (Nat.le_of_ble_eq_true rfl) rp06I (by simp [pdZ, Value.oneCell']) ?_; intro w2 hB ht; have HX := lh ((HX.out.al 139 pdZ w1.heap.size rfl).put 3 rfl (cs := pdZ) (hB.eq_cells rfl) ht); clear hB ht)
 generalize w1.heap.size = h at *
 obtain ⟨gs, os, rfl, hgs, hcs⟩ := (HSL.out.touch HX.out.ff (fun _ _ e => e)).at_ 0 Nat.one_pos
 have HR : Hid (w2.rangeAt gs os (pdC u)) := fun j v hv => by have := hcs j v hv; simpa using this
 clear hcs hgs
 have c36 : w2.cell? ⟨g, 36, none⟩ = some (.slice (some ⟨gs, os, none⟩) 1 c) := by rw [<- hC, <- hn, <- hc]; exact (HX.out.at_ 0 rfl).cell 36
 have f36 : w2.frozen? ⟨g, 36, none⟩ = false := (HX.out.at_ 0 rfl).frozen 36
 go_upto_region 4 with (first
  |(refine wpList_loadB rfl _ (.tmp 25) rfl gs os (by rfl) (pdC u) HR.out Tryz.underlying139 rfl rp06I ?_)
  |(refine wpList_storeB rfl _ (.tmp 6) (.tmp 26) rfl w2.heap.size 0 (by rfl) (pdC u) (by rfl) ((HX.out.al 139 pdZ w2.heap.size rfl).at_ 4 rfl) (Nat.le_of_ble_eq_true rfl) rp06I (pdO u) ?_; intro w3 hB ht; have HX := lh ((HX.out.al 139 pdZ w2.heap.size rfl).put 4 rfl (cs := pdC u) (hB.eq_cells rfl) ht); clear hB ht))
 generalize w2.heap.size = p at *
 clear c36 f36
 have c36 : w3.cell? ⟨g, 36, none⟩ = some (.slice (some ⟨gs, os, none⟩) 1 c) := by rw [<- hC, <- hn, <- hc]; exact (HX.out.at_ 0 rfl).cell 36
 have f36 : w3.frozen? ⟨g, 36, none⟩ = false := (HX.out.at_ 0 rfl).frozen 36
 go_upto_region 5 with (fail)
 obtain ⟨A', hA'⟩ : ∃ A', A' = (if c = 1 then some (⟨gs, os, none⟩ : Addr) else some ⟨gs, os + 8, none⟩) := ⟨_, rfl⟩
 rw [<- hA']
 clear hA'
 have HX2 : Hid (FB (FF w) [g, g + 1, g + 1 + 1, h, p] w (w3.setCell ⟨g, 36, none⟩ (.slice A' 0 (c - 1))) [⟨g, 40, (nxC x A' (c - 1)).cells⟩, ⟨g + 1, 40, rnZ⟩, ⟨g + 1 + 1, 139, pdZ⟩, ⟨h, 139, pdZ⟩, ⟨p, 139, pdC u⟩]) := HX.out.put1 0 rfl 36 (.slice A' 0 (c - 1))
 clear HX c36 f36 HR
 have HX := HX2
 clear HX2
 generalize w3.setCell ⟨g, 36, none⟩ (.slice A' 0 (c - 1)) = w4 at *
 obtain ⟨y, hy⟩ := xq (nxC x A' (c - 1))
 rw [<- hy] at HX
 have HYY := lh hy
 clear hy
 have HINJ : Hid (∀ i, i < 5 -> ∀ j, j < 5 -> nxslot i = nxslot j -> i = j) := by
  show ∀ i, i < 5 -> ∀ j, j < 5 -> nxslot i = nxslot j -> i = j
  decide +kernel
 have HFD : Hid (∀ k, k ∈ nxD -> nxidx k < 5 ∧ nxslot (nxidx k) = k) := by
  show ∀ k, k ∈ nxD -> nxidx k < 5 ∧ nxslot (nxidx k) = k
  decide +kernel
 refine Dag.detP (by kernel_rfl) 5 nxD nxslot (nxval y u) (nxWD w g h p y u) () (fun b k => nxval y u b (nxidx k)) (by rfl) (fun i j hi hj => HINJ.out i hi j hj) (by decide +kernel) (HX.out.fresh (Touch.refl _ _).drew) (by decide +kernel)
  ⟨?_, ?_, ?_, ?_, ?_, trivial⟩ (fun b k hk => ⟨nxidx k, (HFD.out k hk).1, (HFD.out k hk).2, rfl⟩) ?_
 ·refine Dag.PStep.pure 31 rfl rfl rfl (by decide) (fun b dn W H => H.upd (by decide) (by decide) (Touch.refl _ _)) (fun b dn R W hp hm hW => ?_)
  have q1 : R.eval (.tmp 1) = .pointer (some ⟨g, 0, none⟩) := hm.old 1 (by decide)
  exact exec_loadB rfl q1 (FB.at_ hW 0 rfl).range Tryz.underlying40 rfl rnI
 ·refine Dag.PStep.pure 32 rfl rfl rfl (by decide) (fun b dn W H => H.upd (by decide) (by decide) (Touch.refl _ _)) (fun b dn R W hp hm hW => ?_)
  have q6 : R.eval (.tmp 6) = .pointer (some ⟨p, 0, none⟩) := hm.old 6 (by decide)
  exact exec_loadB rfl q6 (FB.at_ hW 4 rfl).range Tryz.underlying139 rfl rp06I
 ·refine ⟨rfl, fun s hs => (by cases hs), fun b dn R W hi hp hcl hm hW => ?_⟩
  have q2 : R.eval (.tmp 2) = .pointer (some ⟨g + 1, 0, none⟩) := hm.old 2 (by decide)
  have q31 : R.eval (.tmp 31) = .agg y.cells.toArray := hm.got 0 (by decide) (hp 0 (by decide +kernel)) (by decide) (Nat.le_of_ble_eq_true rfl)
  have hB := FB.at_ hW 1 rfl
  have ht : Touch (· = g + 1) W (W.setCells (g + 1) 0 y.cells) := Touch.setCells (S := (· = g + 1)) rfl _ _ (Touch.refl _ _)
  rw [hi] at hB
  refine .skip rfl undef (W.setCells (g + 1) 0 y.cells) (exec_storeB rfl q2 q31 (hB.there_at 0 (Nat.le_of_ble_eq_true rfl)) rnI (rnO _)) ⟨b, rfl, fun _ _ _ => rfl, ?_⟩
  have h1 := FB.put hW 1 rfl (hB.setCells (cs := rnZ) (vs := y.cells) rfl) ht
  unfold nxWD
  rw [Dag.upd_same, Dag.upd_far _ _ (by decide)]
  exact h1
 ·refine ⟨rfl, fun s hs => (by cases hs), fun b dn R W hi hp hcl hm hW => ?_⟩
  have q3 : R.eval (.tmp 3) = .pointer (some ⟨g + 1 + 1, 0, none⟩) := hm.old 3 (by decide)
  have q32 : R.eval (.tmp 32) = .agg (pdC u).toArray := hm.got 1 (by decide) (hp 1 (by decide +kernel)) (by decide) (Nat.le_of_ble_eq_true rfl)
  have hB := FB.at_ hW 2 rfl
  have ht : Touch (· = g + 1 + 1) W (W.setCells (g + 1 + 1) 0 (pdC u)) := Touch.setCells (S := (· = g + 1 + 1)) rfl _ _ (Touch.refl _ _)
  rw [hi] at hB
  refine .skip rfl undef (W.setCells (g + 1 + 1) 0 (pdC u)) (exec_storeB rfl q3 q32 (hB.there_at 0 (Nat.le_of_ble_eq_true rfl)) rp06I (pdO _)) ⟨b, rfl, fun _ _ _ => rfl, ?_⟩
  have h1 := FB.put hW 2 rfl (hB.setCells (cs := pdZ) (vs := pdC u) rfl) ht
  unfold nxWD
  rw [Dag.upd_same, Dag.upd_far _ _ (by decide)]
  exact h1
 ·refine Dag.PStep.pure 4 rfl rfl rfl (by decide) (fun b dn W H => H.upd (by decide) (by decide) (Touch.refl _ _)) (fun b dn R W hp hm hW => ?_)
  have qk0 : R.eval (.const (.bool true)) = .bool true := hm.cst _ (fun k e => by cases e)
  clear hp hm hW
  show (execOp R.eval _).run Tryz.prog W = .ok (.value (.bool true)) W
  unfold execOp
  generalize R.eval = ρ at *
  go_simp
 ·intro b d w9 hd hW
  have h1 : nxWD w g h p y u b d w9 := hW
  unfold nxWD at h1
  rw [hd 2 (by decide), hd 3 (by decide)] at h1
  have HX := lh h1
  clear h1 hW hd HINJ HFD
  simp only [nxD, Dag.actOf, List.foldl_cons, List.foldl_nil, nxval, nxidx]
  go_wp2_with fail
  exact bodyPost_ret (v := .tuple #[.agg y.cells.toArray, .agg (pdC u).toArray, .bool true]) (results_cct Tryz.results59 _ (by rfl) (HX.out.at_ 1 rfl).range Tryz.underlying40 rfl rnI (by rfl) (HX.out.at_ 2 rfl).range Tryz.underlying139 rfl rp06I) rfl ⟨⟨A', c - 1, by rw [HYY.out]⟩, HX.out.ff⟩
end Go.Proofs.YtipaobpmojahaaaGreat

/-
  ConnGives at the state 7: behind the first expiry the unit goes out again, behind the second it is given up.
-/
import Derived.Test.YtkmegkjkbalooaaAtOk
import Derived.Test.YtkmegkjkbalooaaCnW
import Derived.Test.YtkmegkjkbalooaaNum
namespace Go.Proofs.Ytkmegkjkbalooaa
open Go.RowKit Go.Shelf

theorem Touch.cell3 {S : Nat → Prop} {w w' : World} (h : Touch S w w') {g i : Nat} (hg : g < w.heap.size) (hs : ¬ S g) : w'.cell? ⟨g, i, none⟩ = w.cell? ⟨g, i, none⟩ := World.cell?_of_block (h.block g hg hs)
set_option maxRecDepth 100000 in
theorem gway3 : Cn.run (Cn.ways.getD 6 []) = ⟨2, 9, 7, 1, 7, 1, 0, { data := #[] }⟩ := by kernel_rfl
set_option maxRecDepth 100000 in
theorem gone3 : Cn.expireS ⟨2, 9, 7, 1, 7, 1, 0, { data := #[] }⟩ = (⟨2, 9, 7, 1, 7, 2, 0, { data := #[] }⟩, ⟨[], [⟨9, 1, 9, 0, 0, none, 0, 0, false, { data := #[] }⟩], false, false, 0, 1⟩) := by kernel_rfl
set_option maxRecDepth 100000 in
theorem gtwo3 : Cn.expireS ⟨2, 9, 7, 1, 7, 2, 0, { data := #[] }⟩ = (⟨2, 9, 1, 1, 7, 2, 0, { data := #[] }⟩, ⟨[⟨12, { data := #[] }, false, 79, 0⟩, ⟨3, { data := #[] }, true, 0, 0⟩], [⟨3, 1, 0, 0, 0, none, 0, 0, true, { data := #[] }⟩], false, false, 0, 2⟩) := by kernel_rfl
set_option maxRecDepth 100000 in
theorem gthree3 : Cn.expireS ⟨2, 9, 1, 1, 7, 2, 0, { data := #[] }⟩ = (⟨2, 9, 1, 1, 7, 2, 0, { data := #[] }⟩, ⟨[], [], false, false, 0, 0⟩) := by kernel_rfl
theorem gat3 (w : World) : Calls Try.prog 17 #[.int .i64 7] w fun e w' => ∃ c, e = .returned (.tuple #[.pointer (some ⟨c, 0, none⟩), rcV ⟨2, 9, 7, 1, 7, 1, 0, { data := #[] }⟩]) ∧ ConnAt w' c ⟨2, 9, 7, 1, 7, 1, 0, { data := #[] }⟩ ∧ Cn.Ok ⟨2, 9, 7, 1, 7, 1, 0, { data := #[] }⟩ ∧ w.heap.size ≤ c ∧ Fresh w w' := by
  have h := at14_any w 6 (by decide)
  rw [gway3] at h
  exact h

set_option maxHeartbeats 4000000 in
set_option maxRecDepth 100000 in
theorem gives3 (n0 how late : Int) (W : World) (_ : (Lit.int .i64 n0).wf = true) (hb : bits .and .i64 how 3 = 3) :
    Calls Try.prog 5 #[.int .i64 n0, .int .i64 how, .int .i64 late] W fun e w' => e = .returned (.bool true) ∧ Below W.heap.size W w' := by
  obtain ⟨m, hm⟩ : ∃ m, (if 16 < n0 then (16 : Int) else n0) = m := ⟨_, rfl⟩
  obtain ⟨M, hM⟩ : ∃ M, (if 1 < m then m else 1) = M := ⟨_, rfl⟩
  obtain ⟨L, hL⟩ : ∃ L, bits .and .i64 late 3 = L := ⟨_, rfl⟩
  have HL : Hid (0 ≤ L ∧ L < 4) := by have e3 : bits .and .i64 late 3 = late % 4 := and_mask late 2 3 rfl (by omega); unfold Hid; rw [← hL, e3]; omega
  have hwL : IntKind.i64.wrap (5 + L) = 5 + L := IntWalk.i64_in _ (by have := HL.out; omega)
  have hl0 : decide ((0 : Int) < 5 + L) = true := decide_eq_true (by have := HL.out; omega)
  have hl1 : decide ((1 : Int) < 5 + L) = true := decide_eq_true (by have := HL.out; omega)
  go_enter Try.func5, Try.ntmps5
  go_wp2_with fail
  refine (awake14 W).mono ?_
  rintro e w1 ⟨rfl, f1⟩
  have F1 : Hid (Fresh W w1) := f1
  clear f1
  go_wp2_with fail
  have HA2 : Hid (Fresh W (w1.alloc (.cells #[.int .i64 2, .int .i64 4, .int .i64 5, .int .i64 7] 3))) := F1.out.alloc _
  refine (gat3 _).mono ?_
  rintro e w2 ⟨c, rfl, hc, ho, hn, f2⟩
  have HCW : Hid (W.heap.size ≤ c) := by have := HA2.out.size; unfold Hid; omega
  have HC2 : Hid (ConnAt w2 c ⟨2, 9, 7, 1, 7, 1, 0, { data := #[] }⟩) := hc
  have HO2 := Lib.hid ho
  have F2 : Hid (Fresh W w2) := HA2.out.trans f2 (fun _ _ e => e)
  clear hc ho hn f2 HA2 F1
  simp only [rcV]
  clear hm hM
  have HF3 : Hid (Fresh w2 (w2.alloc (.cells #[.int .i64 2, .int .i64 9, .int .i64 7, .int .i64 1, .int .i64 7, .int .i64 1, .int .i64 0, .string { data := #[] }] 59))) := (Touch.refl _ _).alloc _
  go_upto_if 38 with (fail)
  generalize w2.alloc (.cells #[.int .i64 2, .int .i64 9, .int .i64 7, .int .i64 1, .int .i64 7, .int .i64 1, .int .i64 0, .string { data := #[] }] 59) = w3 at *
  have HC3 : Hid (ConnAt w3 c ⟨2, 9, 7, 1, 7, 1, 0, { data := #[] }⟩) := HF3.out.blk HC2.out (fun e => e)
  have F3 : Hid (Fresh W w3) := F2.out.trans HF3.out (fun _ _ e => e)
  clear HC2 F2 HF3
  generalize w2.heap.size = bx at *
  go_cut [7] (fun v wx => (∃ i : Int, v = .int .i64 i) ∧ wx = w3)
  case first =>
    go_wp2_with fail
    all_goals
      go_meet
      case rel => exact ⟨⟨_, rfl⟩, rfl⟩
  case rest =>
    obtain ⟨⟨mm, rfl⟩, rfl⟩ := hcut
    go_wp2_with fail
    go_loopw [11, 42] (fun o i wr => ∃ k : Nat, k ≤ 1 ∧ o = .int .i64 ((k : Int) + 1) ∧ i = .int .i64 k ∧ Hid (ConnAt wr c ⟨2, 9, 7, 1, 7, (k : Int) + 1, 0, { data := #[] }⟩) ∧ Hid (Cn.Ok ⟨2, 9, 7, 1, 7, (k : Int) + 1, 0, { data := #[] }⟩) ∧ Hid (Fresh W wr)) (fun _ i _ => (2 - intOf i).toNat)
    case atStart => exact ⟨0, by omega, rfl, rfl, HC3, HO2, F3⟩
    case round =>
      clear HC3 HO2 F3
      obtain ⟨k, hk, rfl, rfl, HC, HO, HF⟩ := hrel
      rcases (show k = 0 ∨ k = 1 by omega) with e | e
      · subst e
        have H1 : Hid (ConnAt wr c ⟨2, 9, 7, 1, 7, 1, 0, { data := #[] }⟩) := HC.out
        have O1 : Hid (Cn.Ok ⟨2, 9, 7, 1, 7, 1, 0, { data := #[] }⟩) := HO.out
        clear HC HO hk
        simp only [Int.natCast_zero, Int.zero_add, Int.ofNat_zero]
        have hw1 : IntKind.i64.wrap 1 = 1 := by decide
        have hw2 : IntKind.i64.wrap 2 = 2 := by decide
        have hfs := field_state 7 1 7 2 0
        have hfq := field_sq 7 1 7 2 0
        go_wp2_with fail
        refine (expire_any H1.out O1.out).mono ?_
        rintro e w4 ⟨v, rfl, hp⟩
        obtain ⟨A1, c1, A2, c2, rfl, h3, o3, s3, u3, -, -, t3⟩ := hp.ex (n1 := 0) (n2 := 1) gone3 rfl rfl
        obtain ⟨g1, o1, rfl, hg1, hx1⟩ := u3.at_ 0 (by simp)
        have HO4 := Lib.hid o3
        have HF4 : Hid (Fresh W w4) := HF.out.trans t3 (fun j hj e => by have e : j = c := e; have := HCW.out; omega)
        have hfr : Fresh w4 (w4.alloc (.cells #[.slice A1 0 c1, .slice (some ⟨g1, o1, none⟩) 1 c2, .bool false, .bool false, .int .u32 0, .int .i64 1] 41)) := (Touch.refl _ _).alloc _
        have HBX : Hid (Blk (w4.alloc (.cells #[.slice A1 0 c1, .slice (some ⟨g1, o1, none⟩) 1 c2, .bool false, .bool false, .int .u32 0, .int .i64 1] 41)) w4.heap.size 41 [.slice A1 0 c1, .slice (some ⟨g1, o1, none⟩) 1 c2, .bool false, .bool false, .int .u32 0, .int .i64 1]) := Blk.new _ _ _
        have HC5 : Hid (ConnAt (w4.alloc (.cells #[.slice A1 0 c1, .slice (some ⟨g1, o1, none⟩) 1 c2, .bool false, .bool false, .int .u32 0, .int .i64 1] 41)) c ⟨2, 9, 7, 1, 7, 2, 0, { data := #[] }⟩) := hfr.blk h3 (fun e => e)
        have HF5 : Hid (Fresh W (w4.alloc (.cells #[.slice A1 0 c1, .slice (some ⟨g1, o1, none⟩) 1 c2, .bool false, .bool false, .int .u32 0, .int .i64 1] 41))) := HF4.out.trans hfr (fun _ _ e => e)
        have hx50 : Hid ((w4.alloc (.cells #[.slice A1 0 c1, .slice (some ⟨g1, o1, none⟩) 1 c2, .bool false, .bool false, .int .u32 0, .int .i64 1] 41)).cell? ⟨g1, o1, none⟩ = some (.int .i64 9)) := by unfold Hid; rw [hfr.cell3 hg1 (fun e => e)]; simpa [pduE, Nat.add_assoc] using hx1 0 _ rfl
        have hx51 : Hid ((w4.alloc (.cells #[.slice A1 0 c1, .slice (some ⟨g1, o1, none⟩) 1 c2, .bool false, .bool false, .int .u32 0, .int .i64 1] 41)).cell? ⟨g1, o1 + 1, none⟩ = some (.int .i64 1)) := by unfold Hid; rw [hfr.cell3 hg1 (fun e => e)]; simpa [pduE, Nat.add_assoc] using hx1 1 _ rfl
        have HG1 : Hid (g1 < (w4.alloc (.cells #[.slice A1 0 c1, .slice (some ⟨g1, o1, none⟩) 1 c2, .bool false, .bool false, .int .u32 0, .int .i64 1] 41)).heap.size) := Nat.lt_of_lt_of_le hg1 hfr.size
        clear hp h3 o3 s3 u3 t3 hx1 hfr hg1 H1 O1 HF HF4
        go_upto_region 14 with (fail)
        generalize (w4.alloc (.cells #[.slice A1 0 c1, .slice (some ⟨g1, o1, none⟩) 1 c2, .bool false, .bool false, .int .u32 0, .int .i64 1] 41)) = w5 at *
        generalize w4.heap.size = b5 at *
        go_wp2_with fail
        refine (vars_any HC5.out).mono ?_
        rintro e w6 ⟨rfl, f6⟩
        have KEEP : Hid (∀ wx, Fresh w5 wx → wx.cell? ⟨b5, 0, none⟩ = some (.slice A1 0 c1) ∧ wx.cell? ⟨b5, 1, none⟩ = some (.slice (some ⟨g1, o1, none⟩) 1 c2) ∧ wx.cell? ⟨b5, 5, none⟩ = some (.int .i64 1) ∧ wx.cell? ⟨g1, o1, none⟩ = some (.int .i64 9) ∧ wx.cell? ⟨g1, o1 + 1, none⟩ = some (.int .i64 1)) := fun wx ht => ⟨((ht.blk HBX.out (fun e => e)).cell 0), ((ht.blk HBX.out (fun e => e)).cell 1), ((ht.blk HBX.out (fun e => e)).cell 5), (by rw [ht.cell3 HG1.out (fun e => e)]; exact hx50), (by rw [ht.cell3 HG1.out (fun e => e)]; exact hx51)⟩
        have HC6 : Hid (ConnAt w6 c ⟨2, 9, 7, 1, 7, 2, 0, { data := #[] }⟩) := f6.blk HC5.out (fun e => e)
        have HF6 : Hid (Fresh W w6) := HF5.out.trans f6 (fun _ _ e => e)
        have HK6 : Hid (∀ wx, Fresh w6 wx → wx.cell? ⟨b5, 0, none⟩ = some (.slice A1 0 c1) ∧ wx.cell? ⟨b5, 1, none⟩ = some (.slice (some ⟨g1, o1, none⟩) 1 c2) ∧ wx.cell? ⟨b5, 5, none⟩ = some (.int .i64 1) ∧ wx.cell? ⟨g1, o1, none⟩ = some (.int .i64 9) ∧ wx.cell? ⟨g1, o1 + 1, none⟩ = some (.int .i64 1)) := fun wx ht => KEEP.out wx (f6.trans ht (fun _ _ e => e))
        clear KEEP HBX HC5 HF5 hx50 hx51 HG1 f6
        have hta : Fresh w6 (w6.alloc (.cells #[.int .i64 1, .int .i64 3, .int .i64 5, .int .i64 9] 3)).drew := ((Touch.refl _ _).alloc _).drew
        obtain ⟨p0, p1, p2, p3, p4⟩ := HK6.out w6 (Touch.refl _ _)
        obtain ⟨q0, q1, q2, q3, q4⟩ := HK6.out (w6.alloc (.cells #[.int .i64 1, .int .i64 3, .int .i64 5, .int .i64 9] 3)) ((Touch.refl _ _).alloc _)
        go_upto_region 19 with (fail)
        go_cut [151] (fun v wx => v = .bool false ∧ Hid (ConnAt wx c ⟨2, 9, 7, 1, 7, 2, 0, { data := #[] }⟩) ∧ Hid (Fresh W wx))
        case first =>
          go_region_law (go_simp; go_at_call 13; refine (vars_any (hta.blk HC6.out (fun e => e))).mono ?_; rintro e w7 ⟨rfl, f7⟩; have ht7 := hta.trans f7 (fun _ _ e => e); obtain ⟨r0, r1, r2, r3, r4⟩ := HK6.out _ ht7)
          all_goals
            have HC7 : Hid (ConnAt w7 c ⟨2, 9, 7, 1, 7, 2, 0, { data := #[] }⟩) := ht7.blk HC6.out (fun e => e)
            have HF7 : Hid (Fresh W w7) := HF6.out.trans ht7 (fun _ _ e => e)
            clear ht7 f7 r0 r1 r2 r3 r4
            go_wp2_with fail
            go_meet
            first
              | exact ⟨rfl, HC7, HF7⟩
              | (case rel => exact ⟨rfl, HC7, HF7⟩)
        case rest =>
          obtain ⟨rfl, HC7, HF7⟩ := hcut
          clear hta HC6 HF6 HK6 p0 p1 p2 p3 p4 q0 q1 q2 q3 q4
          go_wp2
          go_roundw
          case rel => exact ⟨1, by omega, rfl, rfl, HC7, HO4, HF7⟩
          case measure => simp [intOf]
      · subst e
        have H1 : Hid (ConnAt wr c ⟨2, 9, 7, 1, 7, 2, 0, { data := #[] }⟩) := HC.out
        have O1 : Hid (Cn.Ok ⟨2, 9, 7, 1, 7, 2, 0, { data := #[] }⟩) := HO.out
        clear HC HO hk
        simp only [Int.natCast_one, Int.ofNat_one]
        have hw1 : IntKind.i64.wrap 1 = 1 := by decide
        have hfs := field_state 1 1 7 2 0
        go_wp2_with fail
        refine (expire_any H1.out O1.out).mono ?_
        rintro e w4 ⟨v, rfl, hp⟩
        obtain ⟨A1, c1, A2, c2, rfl, h3, o3, s3, u3, -, -, t3⟩ := hp.ex (n1 := 2) (n2 := 1) gtwo3 rfl rfl
        obtain ⟨g1, o1, hA1, hg1, hx1⟩ := s3.at_ 0 (by simp)
        obtain ⟨g1', o1', hA1', hg1', hx2⟩ := s3.at_ 1 (by simp)
        rw [hA1] at hA1'
        injection hA1' with hA1'
        injection hA1' with hA1' hA1'' _
        subst hA1' hA1'' hA1
        obtain ⟨g2, o2, rfl, hg2, hx3⟩ := u3.at_ 0 (by simp)
        have HO4 := Lib.hid o3
        have HF4 : Hid (Fresh W w4) := HF.out.trans t3 (fun j hj e => by have e : j = c := e; have := HCW.out; omega)
        have hfr : Fresh w4 (w4.alloc (.cells #[.slice (some ⟨g1, o1, none⟩) 2 c1, .slice (some ⟨g2, o2, none⟩) 1 c2, .bool false, .bool false, .int .u32 0, .int .i64 2] 41)) := (Touch.refl _ _).alloc _
        have HBX : Hid (Blk (w4.alloc (.cells #[.slice (some ⟨g1, o1, none⟩) 2 c1, .slice (some ⟨g2, o2, none⟩) 1 c2, .bool false, .bool false, .int .u32 0, .int .i64 2] 41)) w4.heap.size 41 [.slice (some ⟨g1, o1, none⟩) 2 c1, .slice (some ⟨g2, o2, none⟩) 1 c2, .bool false, .bool false, .int .u32 0, .int .i64 2]) := Blk.new _ _ _
        have HC5 : Hid (ConnAt (w4.alloc (.cells #[.slice (some ⟨g1, o1, none⟩) 2 c1, .slice (some ⟨g2, o2, none⟩) 1 c2, .bool false, .bool false, .int .u32 0, .int .i64 2] 41)) c ⟨2, 9, 1, 1, 7, 2, 0, { data := #[] }⟩) := hfr.blk h3 (fun e => e)
        have HF5 : Hid (Fresh W (w4.alloc (.cells #[.slice (some ⟨g1, o1, none⟩) 2 c1, .slice (some ⟨g2, o2, none⟩) 1 c2, .bool false, .bool false, .int .u32 0, .int .i64 2] 41))) := HF4.out.trans hfr (fun _ _ e => e)
        have hy6 : Hid ((w4.alloc (.cells #[.slice (some ⟨g1, o1, none⟩) 2 c1, .slice (some ⟨g2, o2, none⟩) 1 c2, .bool false, .bool false, .int .u32 0, .int .i64 2] 41)).cell? ⟨g2, o2 + 6, none⟩ = some (.bool true)) := by unfold Hid; rw [hfr.cell3 hg2 (fun e => e)]; simpa [pduE, Nat.add_assoc] using hx3 6 _ rfl
        have HG2 : Hid (g2 < (w4.alloc (.cells #[.slice (some ⟨g1, o1, none⟩) 2 c1, .slice (some ⟨g2, o2, none⟩) 1 c2, .bool false, .bool false, .int .u32 0, .int .i64 2] 41)).heap.size) := Nat.lt_of_lt_of_le hg2 hfr.size
        have hx3 : Hid ((w4.alloc (.cells #[.slice (some ⟨g1, o1, none⟩) 2 c1, .slice (some ⟨g2, o2, none⟩) 1 c2, .bool false, .bool false, .int .u32 0, .int .i64 2] 41)).cell? ⟨g1, o1 + 3, none⟩ = some (.int .u8 79)) := by unfold Hid; rw [hfr.cell3 hg1 (fun e => e)]; simpa [sigE, Nat.add_assoc] using hx1 3 _ rfl
        have hx5 : Hid ((w4.alloc (.cells #[.slice (some ⟨g1, o1, none⟩) 2 c1, .slice (some ⟨g2, o2, none⟩) 1 c2, .bool false, .bool false, .int .u32 0, .int .i64 2] 41)).cell? ⟨g1, o1 + 5, none⟩ = some (.int .i64 3)) := by unfold Hid; rw [hfr.cell3 hg1 (fun e => e)]; simpa [sigE, Nat.add_assoc] using hx2 0 _ rfl
        have hx6 : Hid ((w4.alloc (.cells #[.slice (some ⟨g1, o1, none⟩) 2 c1, .slice (some ⟨g2, o2, none⟩) 1 c2, .bool false, .bool false, .int .u32 0, .int .i64 2] 41)).cell? ⟨g1, o1 + 6, none⟩ = some (.string { data := #[] })) := by unfold Hid; rw [hfr.cell3 hg1 (fun e => e)]; simpa [sigE, Nat.add_assoc] using hx2 1 _ rfl
        have hx7 : Hid ((w4.alloc (.cells #[.slice (some ⟨g1, o1, none⟩) 2 c1, .slice (some ⟨g2, o2, none⟩) 1 c2, .bool false, .bool false, .int .u32 0, .int .i64 2] 41)).cell? ⟨g1, o1 + 7, none⟩ = some (.bool true)) := by unfold Hid; rw [hfr.cell3 hg1 (fun e => e)]; simpa [sigE, Nat.add_assoc] using hx2 2 _ rfl
        have hx8 : Hid ((w4.alloc (.cells #[.slice (some ⟨g1, o1, none⟩) 2 c1, .slice (some ⟨g2, o2, none⟩) 1 c2, .bool false, .bool false, .int .u32 0, .int .i64 2] 41)).cell? ⟨g1, o1 + 8, none⟩ = some (.int .u8 0)) := by unfold Hid; rw [hfr.cell3 hg1 (fun e => e)]; simpa [sigE, Nat.add_assoc] using hx2 3 _ rfl
        have hx9 : Hid ((w4.alloc (.cells #[.slice (some ⟨g1, o1, none⟩) 2 c1, .slice (some ⟨g2, o2, none⟩) 1 c2, .bool false, .bool false, .int .u32 0, .int .i64 2] 41)).cell? ⟨g1, o1 + 9, none⟩ = some (.int .i64 0)) := by unfold Hid; rw [hfr.cell3 hg1 (fun e => e)]; simpa [sigE, Nat.add_assoc] using hx2 4 _ rfl
        have HG1 : Hid (g1 < (w4.alloc (.cells #[.slice (some ⟨g1, o1, none⟩) 2 c1, .slice (some ⟨g2, o2, none⟩) 1 c2, .bool false, .bool false, .int .u32 0, .int .i64 2] 41)).heap.size) := Nat.lt_of_lt_of_le hg1 hfr.size
        clear hp h3 o3 s3 u3 t3 hx1 hx2 hfr hg1 hg1' H1 O1 HF HF4
        go_upto_region 14 with (fail)
        generalize (w4.alloc (.cells #[.slice (some ⟨g1, o1, none⟩) 2 c1, .slice (some ⟨g2, o2, none⟩) 1 c2, .bool false, .bool false, .int .u32 0, .int .i64 2] 41)) = w5 at *
        generalize w4.heap.size = b5 at *
        go_wp2_with fail
        refine (vars_any HC5.out).mono ?_
        rintro e w6 ⟨rfl, f6⟩
        have KEEP : Hid (∀ wx, Fresh w5 wx → wx.cell? ⟨b5, 0, none⟩ = some (.slice (some ⟨g1, o1, none⟩) 2 c1) ∧ wx.cell? ⟨b5, 3, none⟩ = some (.bool false) ∧ wx.cell? ⟨b5, 5, none⟩ = some (.int .i64 2) ∧ wx.cell? ⟨b5, 1, none⟩ = some (.slice (some ⟨g2, o2, none⟩) 1 c2) ∧ wx.cell? ⟨g2, o2 + 6, none⟩ = some (.bool true) ∧ wx.cell? ⟨g1, o1 + 3, none⟩ = some (.int .u8 79) ∧ wx.cell? ⟨g1, o1 + 5, none⟩ = some (.int .i64 3) ∧ wx.cell? ⟨g1, o1 + 6, none⟩ = some (.string { data := #[] }) ∧ wx.cell? ⟨g1, o1 + 7, none⟩ = some (.bool true) ∧ wx.cell? ⟨g1, o1 + 8, none⟩ = some (.int .u8 0) ∧ wx.cell? ⟨g1, o1 + 9, none⟩ = some (.int .i64 0)) := fun wx ht => ⟨((ht.blk HBX.out (fun e => e)).cell 0), ((ht.blk HBX.out (fun e => e)).cell 3), ((ht.blk HBX.out (fun e => e)).cell 5), ((ht.blk HBX.out (fun e => e)).cell 1), (by rw [ht.cell3 HG2.out (fun e => e)]; exact hy6), (by rw [ht.cell3 HG1.out (fun e => e)]; exact hx3), (by rw [ht.cell3 HG1.out (fun e => e)]; exact hx5), (by rw [ht.cell3 HG1.out (fun e => e)]; exact hx6), (by rw [ht.cell3 HG1.out (fun e => e)]; exact hx7), (by rw [ht.cell3 HG1.out (fun e => e)]; exact hx8), (by rw [ht.cell3 HG1.out (fun e => e)]; exact hx9)⟩
        have HC6 : Hid (ConnAt w6 c ⟨2, 9, 1, 1, 7, 2, 0, { data := #[] }⟩) := f6.blk HC5.out (fun e => e)
        have HF6 : Hid (Fresh W w6) := HF5.out.trans f6 (fun _ _ e => e)
        obtain ⟨p0, p1, p2, p3, p4, p5, p6, p7, p8, p9, p10⟩ := KEEP.out _ f6
        go_upto_region 16 with (fail)
        have hf7 : Fresh w6 (w6.alloc (.cells #[.int .i64 3, .string { data := #[] }, .bool true, .int .u8 0, .int .i64 0] 63)) := (Touch.refl _ _).alloc _
        have HB7 : Hid (Blk (w6.alloc (.cells #[.int .i64 3, .string { data := #[] }, .bool true, .int .u8 0, .int .i64 0] 63)) w6.heap.size 63 [.int .i64 3, .string { data := #[] }, .bool true, .int .u8 0, .int .i64 0]) := Blk.new _ _ _
        have HC7 : Hid (ConnAt (w6.alloc (.cells #[.int .i64 3, .string { data := #[] }, .bool true, .int .u8 0, .int .i64 0] 63)) c ⟨2, 9, 1, 1, 7, 2, 0, { data := #[] }⟩) := hf7.blk HC6.out (fun e => e)
        have HF7 : Hid (Fresh W (w6.alloc (.cells #[.int .i64 3, .string { data := #[] }, .bool true, .int .u8 0, .int .i64 0] 63))) := HF6.out.trans hf7 (fun _ _ e => e)
        have K7 := Lib.hid (KEEP.out _ (f6.trans hf7 (fun _ _ e => e)))
        clear p0 p1 p2 p3 p4 p5 p6 p7 p8 p9 p10 KEEP f6 hf7 HC6 HF6 HC5 HF5 HBX
        generalize (w6.alloc (.cells #[.int .i64 3, .string { data := #[] }, .bool true, .int .u8 0, .int .i64 0] 63)) = w7 at *
        generalize w6.heap.size = b7 at *
        obtain ⟨p0, p1, p2, p3, p4, p5, p6, p7, p8, p9, p10⟩ := K7.out
        have q0 : w7.cell? ⟨b7, 0, none⟩ = some (.int .i64 3) := HB7.out.cell 0
        have q2 : w7.cell? ⟨b7, 2, none⟩ = some (.bool true) := HB7.out.cell 2
        clear K7
        go_wp2_with fail
        refine (expire_any HC7.out HO4.out).mono ?_
        rintro e w8 ⟨v, rfl, hp⟩
        obtain ⟨A3, c3, A4, c4, rfl, h3, o3, s3, u3, -, -, t3⟩ := hp.ex (n1 := 0) (n2 := 0) gthree3 rfl rfl
        have HF8 : Hid (Fresh W w8) := HF7.out.trans t3 (fun j hj e => by have e : j = c := e; have := HCW.out; omega)
        have hfr : ∀ W, (Instr.field 41 (.agg #[.slice A3 0 c3, .slice A4 0 c4, .bool false, .bool false, .int .u32 0, .int .i64 0]) 0).run Try.prog W = .ok (.slice A3 0 c3) W := fun W => rfl
        clear hp h3 o3 s3 u3 t3
        go_wp2
        go_ret
        exact ⟨rfl, HF8.out.below (Nat.le_refl _) (fun _ _ e => e)⟩
end Go.Proofs.Ytkmegkjkbalooaa

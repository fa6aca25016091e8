/-
  polliwoglaw12: of, near, Is, named.
-/
import Derived.Test.YtpjmgdoekeknjaaRfC0
import Derived.Test.YtpjmgdoekeknjaaNm9
import Derived.Test.YtpjmgdoekeknjaaRcvO
import Derived.Test.YtpjmgdoekeknjaaNum
namespace Go.Proofs.Ytpjmgdoekeknjaa
open Go.RowKit

theorem lof_any (a x : Int) (ha : 0 ≤ a ∧ a < 16777216) (w : World) : Calls Try.prog 41 #[.int .u32 a, .int .i64 x] w fun e w' => e = .returned (.bool (a == x % 16777216)) ∧ w' = w := by
  have HO := Lib.hid (r01of_any x)
  generalize x % 16777216 = y at *
  go_enter Try.func41, Try.ntmps41
  go_wp2_with fail
  refine (HO.out w).mono ?_
  rintro e w1 ⟨rfl, rfl⟩
  simp only
  go_wp2
  go_ret
  exact ⟨rfl, rfl⟩

/-- A call of the law's. -/
structure Act12 where
  kind : Int
  n : Int
  raw : Bool
  m : ByteArray
def act12V (a : Act12) : Value := .agg #[.int .i64 a.kind, .int .i64 a.n, .bool a.raw, .string a.m]
def near12 (a : Act12) (base : Int) : Int := if a.raw then a.n % 16777216 else (base + a.n % 64 - (a.n / 64) % 4) % 16777216
theorem and_63' (a : Int) : bits .and .i64 a 63 = a % 64 := and_mask a 6 63 rfl (by omega)
theorem and_3' (a : Int) : bits .and .i64 a 3 = a % 4 := and_mask a 2 3 rfl (by omega)

set_option maxHeartbeats 2000000 in
theorem near_any (a : Act12) (base : Int) (hb : 0 ≤ base ∧ base ≤ 1000000000) (w : World) : Calls Try.prog 26 #[act12V a, .int .i64 base] w fun e w' => e = .returned (.int .i64 (near12 a base)) ∧ Fresh w w' := by
  obtain ⟨kd, N, raw, M⟩ := a
  unfold act12V near12
  simp only
  cases raw with
  | true =>
    have HO := Lib.hid (r01of_any N)
    simp only [if_true]
    go_enter Try.func26, Try.ntmps26
    go_wp2_with fail
    refine (HO.out _).mono ?_
    rintro e w1 ⟨rfl, rfl⟩
    simp only
    go_wp2
    go_ret
    exact ⟨rfl, (Touch.refl _ _).alloc _⟩
  | false =>
    have HO := Lib.hid (r01of_any (base + N % 64 - (N / 64) % 4))
    simp only [Bool.false_eq_true, if_false]
    have a1 := and_63' N
    have a2 := and_3' (N / 64)
    go_enter Try.func26, Try.ntmps26
    go_wp2_with fail
    refine (HO.out _).mono ?_
    rintro e w1 ⟨rfl, rfl⟩
    simp only
    go_wp2
    go_ret
    exact ⟨rfl, (Touch.refl _ _).alloc _⟩
theorem near_bd (a : Act12) (base : Int) : 0 ≤ near12 a base ∧ near12 a base < 16777216 := by
  unfold near12
  split <;> omega

theorem lof_true (x : Int) (w : World) : Calls Try.prog 41 #[.int .u32 (x % 16777216), .int .i64 x] w fun e w' => e = .returned (.bool true) ∧ w' = w := by
  refine (lof_any (x % 16777216) x (by omega) w).mono ?_
  rintro e w' ⟨rfl, rfl⟩
  exact ⟨by simp, rfl⟩

set_option maxHeartbeats 4000000 in
theorem is12_any (p : Nat) (F : Nat → Prop) (A : Option Addr) (c : Nat) (I : Option Addr) (ci : Nat) (G : Option Addr) (cg : Nat) (x : Rf.S) (w : World) (h : RecvAt w p F (Rf.prog x)) :
    Calls Try.prog 25 #[.pointer (some ⟨p, 0, none⟩), rfV x A c I ci G cg] w fun e w' => e = .returned (.bool true) ∧ Fresh w w' := by
  have HV : Hid (∀ W, Fresh w W → Calls Try.prog 16 #[.pointer (some ⟨p, 0, none⟩)] W fun e w' => e = .returned (.agg #[.int .u32 (x.R % 16777216), .int .u32 (x.H % 16777216), .int .u32 (x.MR % 16777216), .int .i64 (x.buf.length : Int), .int .i64 (x.inbox.length : Int), .int .i64 (x.gaps.length : Int)]) ∧ Fresh W w') := fun W hf => by
    refine (rvars_any p F _ W (h.old hf)).mono ?_
    rintro e w' ⟨rfl, f⟩
    refine ⟨?_, f⟩
    unfold Rv.varsV Rf.prog Rf.pm Rf.pg
    simp
  have HR := Lib.hid (lof_true x.R)
  have HH := Lib.hid (lof_true x.H)
  have HM := Lib.hid (lof_true x.MR)
  clear h
  unfold rfV
  generalize x.R % 16777216 = r1 at *
  generalize x.H % 16777216 = r2 at *
  generalize x.MR % 16777216 = r3 at *
  generalize x.R = x1 at *
  generalize x.H = x2 at *
  generalize x.MR = x3 at *
  generalize x.buf.length = l1 at *
  generalize x.inbox.length = l2 at *
  generalize x.gaps.length = l3 at *
  generalize x.window = W at *
  go_enter Try.func25, Try.ntmps25
  go_wp2_with fail
  have HB := Lib.hid (Blk.new w 52 [.int .i64 x1, .int .i64 x2, .int .i64 x3, .int .i64 W, .slice A l1 c, .slice I l2 ci, .slice G l3 cg])
  refine (HV.out _ ((Touch.refl _ _).alloc _)).mono ?_
  rintro e w2 ⟨rfl, f2⟩
  have B2 := Lib.hid (f2.blk HB.out (fun h => h))
  have F2 := Lib.hid (((Touch.refl (fun _ => False) w).alloc (.cells #[.int .i64 x1, .int .i64 x2, .int .i64 x3, .int .i64 W, .slice A l1 c, .slice I l2 ci, .slice G l3 cg] 52)).trans f2 (fun _ _ h => h))
  clear f2 HV HB
  simp only
  go_upto_region 2 with (fail)
  have V3 := Lib.hid (Blk.new w2 36 [.int .u32 r1, .int .u32 r2, .int .u32 r3, .int .i64 (l1 : Int), .int .i64 (l2 : Int), .int .i64 (l3 : Int)])
  have B3 := Lib.hid (B2.out.alloc (.cells #[.int .u32 r1, .int .u32 r2, .int .u32 r3, .int .i64 (l1 : Int), .int .i64 (l2 : Int), .int .i64 (l3 : Int)] 36))
  have F3 := Lib.hid (F2.out.alloc (.cells #[.int .u32 r1, .int .u32 r2, .int .u32 r3, .int .i64 (l1 : Int), .int .i64 (l2 : Int), .int .i64 (l3 : Int)] 36))
  clear B2 F2
  generalize hw3 : World.alloc w2 _ = w3
  have V3' : Hid (Blk w3 w2.heap.size 36 [.int .u32 r1, .int .u32 r2, .int .u32 r3, .int .i64 (l1 : Int), .int .i64 (l2 : Int), .int .i64 (l3 : Int)]) := hw3 ▸ V3.out
  rw [hw3] at B3 F3
  clear V3 hw3
  have V3 := V3'
  clear V3'
  have v0 : w3.cell? ⟨w2.heap.size, 0, none⟩ = _ := V3.out.cell 0
  have v1 : w3.cell? ⟨w2.heap.size, 1, none⟩ = _ := V3.out.cell 1
  have v2 : w3.cell? ⟨w2.heap.size, 2, none⟩ = _ := V3.out.cell 2
  have v3 : w3.cell? ⟨w2.heap.size, 3, none⟩ = _ := V3.out.cell 3
  have v4 : w3.cell? ⟨w2.heap.size, 4, none⟩ = _ := V3.out.cell 4
  have v5 : w3.cell? ⟨w2.heap.size, 5, none⟩ = _ := V3.out.cell 5
  have b0 : w3.cell? ⟨w.heap.size, 0, none⟩ = _ := B3.out.cell 0
  have b1 : w3.cell? ⟨w.heap.size, 1, none⟩ = _ := B3.out.cell 1
  have b2 : w3.cell? ⟨w.heap.size, 2, none⟩ = _ := B3.out.cell 2
  have b3 : w3.cell? ⟨w.heap.size, 3, none⟩ = _ := B3.out.cell 3
  have b4 : w3.cell? ⟨w.heap.size, 4, none⟩ = _ := B3.out.cell 4
  have b5 : w3.cell? ⟨w.heap.size, 5, none⟩ = _ := B3.out.cell 5
  have b6 : w3.cell? ⟨w.heap.size, 6, none⟩ = _ := B3.out.cell 6
  simp only [List.getElem?_cons_succ, List.getElem?_cons_zero] at v0 v1 v2 v3 v4 v5 b0 b1 b2 b3 b4 b5 b6
  clear V3 B3
  go_wp2_with fail
  refine (HR.out _).mono ?_
  rintro e w4 ⟨rfl, rfl⟩
  simp only
  go_wp2_with fail
  refine (HH.out _).mono ?_
  rintro e w5 ⟨rfl, rfl⟩
  simp only
  go_wp2_with fail
  refine (HM.out _).mono ?_
  rintro e w6 ⟨rfl, rfl⟩
  simp only
  go_wp2
  go_ret
  exact ⟨rfl, F3.out⟩

set_option maxHeartbeats 4000000 in
theorem named12_any (A B : Option Addr) (c d : Nat) (l M : List Int) (w : World) (h : Rd numE w A c l) (h2 : Rd intE w B d M) (hl : l.length ≤ 1000000) (hM : M.length ≤ 1000) (he : Gp.nm 65536 l (l.length / 2) = M.map (· % 16777216)) :
    Calls Try.prog 42 #[.slice A l.length c, .slice B M.length d] w fun e w' => e = .returned (.bool true) ∧ Fresh w w' := by
  have HN := Lib.hid (named_any 11 0 0 0 0 A c l false ByteArray.empty w h hl (Or.inl rfl))
  rw [he] at HN
  have H2 := Lib.hid h2
  have hmc := h2.1
  have hmm := h2.2.1
  unfold maxLen at hmm
  have HL : Hid ((M.map (· % 16777216)).length = M.length) := by unfold Hid; simp
  have HE : Hid (∀ i, i < M.length → (M.map (· % 16777216)).getD i 0 = M.getD i 0 % 16777216) := fun i hi => by
    simp [List.getD, List.getElem?_eq_getElem hi]
  generalize M.map (· % 16777216) = K at *
  have hKM : K.length = M.length := HL.out
  clear h h2 he HL
  unfold pduV at HN
  go_enter Try.func42, Try.ntmps42
  go_wp2_with fail
  refine HN.out.mono ?_
  rintro e w1 ⟨C, cd, rfl, m1⟩
  have M1 := Lib.hid m1
  have R1 := Lib.hid (H2.out.touch m1.fresh (fun _ _ _ h => h))
  have hcd := m1.sl.1
  have hcm := m1.sl.2.1
  unfold maxLen at hcm
  rw [hKM] at hcd
  have HK := Lib.hid hKM
  clear m1 HN H2
  rw [hKM]
  clear hKM
  simp only
  go_wp2_with fail
  go_loopw [18] (fun i wr => ∃ k : Nat, k ≤ M.length ∧ i = .int .i64 k ∧ wr = w1) (fun i _ => M.length - (intOf i).toNat)
  case atStart => exact ⟨0, by omega, rfl, rfl⟩
  case round =>
    obtain ⟨k, hk, rfl, rfl⟩ := hrel
    by_cases hlt : k < M.length
    · obtain ⟨g, o, rfl, hg, cm⟩ := R1.out.int_at k hlt
      obtain ⟨g', o', rfl, hg', ck⟩ := M1.out.sl.num_at k (by rw [HK.out]; exact hlt)
      rw [HE.out k hlt] at ck
      have hkl : (k : Int) < (M.length : Int) := by omega
      have hk0 : (0 : Int) ≤ (k : Int) := by omega
      generalize M.getD k 0 = y at *
      have HOF := Lib.hid (lof_true y)
      generalize y % 16777216 = y' at *
      go_wp2_with fail
      refine (HOF.out _).mono ?_
      rintro e w2 ⟨rfl, rfl⟩
      simp only
      go_wp2
      go_roundw
      case rel => exact ⟨k + 1, by omega, by go_num, by first | rfl | trivial⟩
      case measure => simp [intOf]; omega
    · obtain rfl : k = M.length := by omega
      go_wp2
      go_ret
      exact ⟨rfl, M1.out.fresh⟩
end Go.Proofs.Ytpjmgdoekeknjaa

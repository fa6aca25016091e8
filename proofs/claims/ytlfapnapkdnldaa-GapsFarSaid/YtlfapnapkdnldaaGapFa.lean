/-
  GapsFar: of any numbers, also far ones, how many a pair has, and which, is as the document says.
-/
import Derived.Test.YtlfapnapkdnldaaNm9
import Derived.Test.YtlfapnapkdnldaaGapM
import Derived.Test.YtlfapnapkdnldaaAppN
import Derived.Deep.CutBlock
import Derived.Deep.DeepCutAuto
namespace Go.Proofs.Ytlfapnapkdnldaa
open Go.RowKit Go.ChangeShapes Go.WideShapes Go.ChangeAt

namespace Gp
theorem gc_pair (a b : Int) : gc [a, b] ([a, b].length / 2) = pv a b := by
  have e : ([a, b] : List Int).length / 2 = 1 := by simp
  rw [e]
  show (0 : Int) + pv a b = pv a b
  omega
theorem gc_three (a b c : Int) : gc [a, b, c] ([a, b, c].length / 2) = pv a b := by
  have e : ([a, b, c] : List Int).length / 2 = 1 := by simp
  rw [e]
  show (0 : Int) + pv a b = pv a b
  omega
theorem nm_pair (a b : Int) (h : pv a b ≤ 2000) : nm 65536 [a, b] ([a, b].length / 2) = (List.range (pv a b).toNat).map fun i : Nat => (a % 16777216 + (i : Int)) % 16777216 := by
  have e : ([a, b] : List Int).length / 2 = 1 := by simp
  rw [e]
  show nmPair 65536 [] a b = _
  unfold pv at h ⊢
  unfold nmPair
  split
  · rename_i hc
    rw [if_pos hc] at h
    exact nmRow_one 65536 _ _ (by omega) (by omega)
  · rfl
end Gp

set_option maxHeartbeats 8000000 in
set_option maxRecDepth 4000 in
theorem gapsFar.walk (a b c : Int) (w : World) (_h0 : (Lit.int .u32 a).wf = true) (_h1 : (Lit.int .u32 b).wf = true) (_h2 : (Lit.int .u32 c).wf = true) :
    Calls Try.prog 8 #[.int .u32 a, .int .u32 b, .int .u32 c] w fun e w' => e = .returned (.bool true) ∧ Below w.heap.size w w' := by
  have hab : 0 ≤ a ∧ a < 4294967296 := by
    have := _h0
    simp [Lit.wf, IntKind.min, IntKind.max, IntKind.bits, IntKind.signed] at this
    omega
  have hbb : 0 ≤ b ∧ b < 4294967296 := by
    have := _h1
    simp [Lit.wf, IntKind.min, IntKind.max, IntKind.bits, IntKind.signed] at this
    omega
  clear _h0 _h1 _h2
  obtain ⟨z, hz⟩ : ∃ z, (b - a) % 16777216 = z := ⟨_, rfl⟩
  have hzb : 0 ≤ z ∧ z < 16777216 := by omega
  obtain ⟨n, hn⟩ : ∃ n : Nat, Gp.pv a b = (n : Int) := ⟨(Gp.pv a b).toNat, by have := Gp.pv_bd a b; omega⟩
  have hnb : n ≤ 8388608 := by have := Gp.pv_bd a b; omega
  have HPV : Hid ((n : Int) = if z ≤ 8388608 then z else 0) := by unfold Hid; rw [← hn, Gp.pv, hz]
  have HG2 : Hid (Gp.gc [a, b] ([a, b].length / 2) = (n : Int)) := by unfold Hid; rw [Gp.gc_pair, hn]
  have HG3 : Hid (Gp.gc [a, b, c] ([a, b, c].length / 2) = (n : Int)) := by unfold Hid; rw [Gp.gc_three, hn]
  have HNM : Hid ((n : Int) ≤ 2000 → Gp.nm 65536 [a, b] ([a, b].length / 2) = (List.range n).map fun i : Nat => (a % 16777216 + (i : Int)) % 16777216) := fun h => by
    rw [Gp.nm_pair a b (by omega), hn, Int.toNat_natCast]
  clear hn
  have HZ := Lib.hid hz
  clear hz
  go_enter Try.func8, Try.ntmps8
  go_wp2_with fail
  refine (awake09 w).mono ?_
  rintro e w1 ⟨rfl, f1⟩
  have FW : Hid (Fresh w w1) := f1
  clear f1
  simp only
  go_upto_region 4 with (fail)
  have M0 : Hid (Mine numE w1 (w1.alloc (.cells #[.int .u32 a, .int .u32 b] 30)) (some ⟨w1.heap.size, 0, none⟩) 2 [a, b]) := Mine.lit numE w1 #[.int .u32 a, .int .u32 b] [a, b] rfl 2 rfl (by decide)
  go_wp2_with fail
  refine (r01to_any a b _).mono ?_
  rintro e w2 ⟨rfl, hw2⟩
  rw [← hw2] at M0
  clear hw2
  rw [HZ.out]
  replace FW := Lib.hid (FW.out.trans M0.out.fresh (fun _ _ h => h))
  obtain ⟨g1, hg1⟩ : ∃ g, g = w1.heap.size := ⟨_, rfl⟩
  rw [← hg1] at M0 ⊢
  have HSL : Hid (Sl numE w2 (some ⟨g1, 0, none⟩) 2 [a, b]) := M0.out.sl
  have HG1 := Lib.hid hg1
  have HBS : Hid (w1.heap.size ≤ g1) := by unfold Hid; omega
  clear M0 hg1 HG1
  simp only
  go_upto_if 23 with (fail)
  go_cut [8] (fun s8 wx => s8 = .int .i64 n ∧ wx = w2)
  case first =>
    by_cases h8 : z ≤ 8388608
    · have HE := HPV.out
      rw [if_pos h8] at HE
      have hd : decide (8388608 < z) = false := decide_eq_false (by omega)
      go_wp2
      go_meet
      case rel => exact ⟨by rw [HE], rfl⟩
    · have HE := HPV.out
      rw [if_neg h8] at HE
      have hd : decide (8388608 < z) = true := decide_eq_true (by omega)
      go_wp2
      go_meet
      case rel => exact ⟨by rw [HE], rfl⟩
  case rest =>
    obtain ⟨rfl, rfl⟩ := hcut
    clear HPV hzb HZ
    replace HNM := HNM
    go_wp2_with fail
    refine (count_any _ 2 [a, b] wc HSL.out.rd (by simp)).mono ?_
    rintro e w3 ⟨rfl, f3⟩
    rw [HG2.out]
    replace FW := Lib.hid (FW.out.trans f3 (fun _ _ h => h))
    have R3 : Hid (Rd numE w3 (some ⟨g1, 0, none⟩) 2 [a, b]) := HSL.out.rd.touch f3 (fun _ _ _ h => h)
    have hne : ((n : Int) != (n : Int)) = false := by simp
    have R4 : Hid (Rd numE (w3.alloc (.cells #[.int .u32 c] 30)) (some ⟨w3.heap.size, 0, none⟩) 1 [c]) := Sl.rd (Sl.lit numE w3 _ rfl #[.int .u32 c] [c] rfl 1 rfl (by decide))
    have F4 : Hid (Fresh w3 (w3.alloc (.cells #[.int .u32 c] 30))) := (Touch.refl _ _).alloc _
    obtain ⟨i0, hi, hz0, hz1, hz2⟩ := info_parts Try.infoNum
    have HAN : Hid (∀ {ops : Array Oper} {rest : List Oper} {o : Oper} {a' : Act} {Q : Exit → Act → World → Prop}, Region.wanted o (yielded ops a'.tmps) = true → ∀ {s x : Operand}, o.op = .call { callee := .builtin .append, args := #[s, x], argTypes := #[32, 32] } → a'.eval s = .slice (some ⟨g1, 0, none⟩) 2 2 → a'.eval x = .slice (some ⟨w3.heap.size, 0, none⟩) 1 1 →
        (∀ A' c' L w', Hid (L = [a, b, c]) → Mine numE (w3.alloc (.cells #[.int .u32 c] 30)) w' A' c' L → wpList Try.prog ops Q rest (a'.put o.dst (.slice A' L.length c')) w') → wpList Try.prog ops Q (o :: rest) a' (w3.alloc (.cells #[.int .u32 c] 30))) := fun hw _ _ ho es ex hK =>
      wpList_app_new numE (l := [a, b]) (l2 := [c]) hw ho i0 Try.underlying32 hi hz0 hz1 hz2 es ex (R3.out.touch F4.out (fun _ _ _ h => h)) R4.out (by simp) (by simp [maxLen]) (by simp [numE]) hK
    clear f3 HSL HG2 HBS hi hz0 hz1 hz2
    simp only
    go_wp2_with (at_builtin; refine HAN.out (by rfl) rfl rfl rfl ?_; intro A5 c5 L5 w5 hL5 M5; obtain rfl : L5 = [a, b, c] := hL5.out; replace FW := Lib.hid ((FW.out.trans F4.out (fun _ _ h => h)).trans M5.fresh (fun _ _ h => h)); replace R3 := Lib.hid ((R3.out.touch F4.out (fun _ _ _ h => h)).touch M5.fresh (fun _ _ _ h => h)); have R5 : Hid (Rd numE w5 A5 c5 [a, b, c]) := M5.sl.rd; clear M5 hL5 HAN R4 F4)
    refine (count_any _ c5 [a, b, c] w5 R5.out (by simp)).mono ?_
    rintro e w6 ⟨rfl, f6⟩
    rw [HG3.out]
    replace FW := Lib.hid (FW.out.trans f6 (fun _ _ h => h))
    replace R3 := Lib.hid (R3.out.touch f6 (fun _ _ _ h => h))
    clear f6 R5 HG3
    simp only
    by_cases h2 : n ≤ 2000
    · have h2i : ¬ (2000 : Int) < (n : Int) := by omega
      have h2d : decide ((2000 : Int) < (n : Int)) = false := decide_eq_false h2i
      have HNE : Hid (Gp.nm 65536 [a, b] ([a, b].length / 2) = (List.range n).map fun i : Nat => (a % 16777216 + (i : Int)) % 16777216) := HNM.out (by omega)
      have HNA := Lib.hid (named_any 12 0 0 0 0 (some ⟨g1, 0, none⟩) 2 [a, b] false ByteArray.empty w6 R3.out (by simp) (.inr rfl))
      rw [HNE.out, List.length_map, List.length_range] at HNA
      unfold pduV at HNA
      clear HNE HNM R3
      go_wp2_with fail
      refine HNA.out.mono ?_
      rintro e w7 ⟨C, d, rfl, M7⟩
      replace FW := Lib.hid (FW.out.trans M7.fresh (fun _ _ h => h))
      have R7 : Hid (Rd numE w7 C d ((List.range n).map fun i : Nat => (a % 16777216 + (i : Int)) % 16777216)) := M7.sl.rd
      clear M7 HNA
      simp only
      go_wp2_with fail
      go_loopw [44] (fun i wr => ∃ k : Nat, k ≤ n ∧ i = .int .i64 k ∧ wr = w7) (fun i _ => n - (intOf i).toNat)
      case atStart => exact ⟨0, by omega, rfl, rfl⟩
      case round =>
        obtain ⟨k, hkn, rfl, rfl⟩ := hrel
        by_cases hk : k < n
        · have hk1 : (k : Int) < (n : Int) := by omega
          have hk0 : (0 : Int) ≤ (k : Int) := by omega
          obtain ⟨g, o, rfl, _, c0⟩ := R7.out.num_at k (by simp; exact hk)
          have hget : ((List.range n).map fun i : Nat => (a % 16777216 + (i : Int)) % 16777216).getD k 0 = (a % 16777216 + (k : Int)) % 16777216 := by
            simp [List.getD, hk]
          rw [hget] at c0
          clear hget
          have hxb : 0 ≤ (a % 16777216 + (k : Int)) % 16777216 ∧ (a % 16777216 + (k : Int)) % 16777216 < 16777216 := by omega
          have HX := Lib.hid (r01of_any (a % 16777216 + (k : Int)))
          generalize (a % 16777216 + (k : Int)) % 16777216 = x at *
          have hxx : (x != x) = false := by simp
          go_wp2_with fail
          refine (r01of_any a _).mono ?_
          rintro e w8 ⟨rfl, rfl⟩
          have hab2 : 0 ≤ a % 16777216 ∧ a % 16777216 < 16777216 := by omega
          generalize a % 16777216 = a1 at *
          simp only
          go_wp2_with fail
          refine (HX.out _).mono ?_
          rintro e w9 ⟨rfl, rfl⟩
          simp only
          go_wp2
          go_roundw
          case rel => exact ⟨k + 1, by omega, by go_num, by first | rfl | trivial⟩
          case measure => simp [intOf]; omega
        · have hkk : k = n := by omega
          have hk' : ¬ (k : Int) < (n : Int) := by omega
          clear hk
          go_wp2
          go_ret
          exact ⟨by simp, FW.out.below (Nat.le_refl _) (fun _ _ h => h)⟩
    · have h2i : (2000 : Int) < (n : Int) := by omega
      have h2d : decide ((2000 : Int) < (n : Int)) = true := decide_eq_true h2i
      go_wp2
      go_ret
      exact ⟨rfl, FW.out.below (Nat.le_refl _) (fun _ _ h => h)⟩
end Go.Proofs.Ytlfapnapkdnldaa

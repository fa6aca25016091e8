/-
  GapsNamed: which numbers a status names is as the document says, each once.
-/
import Derived.Test.YtlfapnapkdnldaaNm9r
import Derived.Test.YtlfapnapkdnldaaGapP2
import Derived.Test.YtlfapnapkdnldaaGapM
import Derived.Deep.CutBlock
namespace Go.Proofs.Ytlfapnapkdnldaa
open Go.RowKit Go.ChangeShapes Go.WideShapes Go.ChangeAt

namespace Gp
def ow (L : List Int) : Nat → List Int
  | 0 => []
  | k + 1 => ow L k ++ [if k % 2 = 1 then ((ow L k).getD (k - 1) 0 + L.getD k 0 % 16777216 % 64) % 16777216 else L.getD k 0 % 16777216]
theorem ow_len (L : List Int) (k : Nat) : (ow L k).length = k := by
  induction k with
  | zero => rfl
  | succ k ih => simp only [ow, List.length_append, List.length_singleton, ih]
theorem ow_bd (L : List Int) (k : Nat) : ∀ x ∈ ow L k, 0 ≤ x ∧ x < 16777216 := by
  induction k with
  | zero => simp [ow]
  | succ k ih =>
    intro x hx
    rcases List.mem_append.1 hx with hx | hx
    · exact ih x hx
    · rw [List.mem_singleton.1 hx]
      split <;> omega
theorem and_63' (a : Int) : bits .and .i64 a 63 = a % 64 := and_mask a 6 63 rfl (by omega)
end Gp

set_option maxHeartbeats 8000000 in
set_option maxRecDepth 4000 in
theorem gapsNamed.core (kind : Int) (A : Option Addr) (c : Nat) (l : List Int) (w : World) (h : Rd intE w A c l) :
    Calls Try.prog 7 #[.int .i64 kind, .slice A l.length c] w fun e w' => e = .returned (.bool true) ∧ Below w.heap.size w w' := by
  have hlc := h.1
  have hcm := h.2.1
  unfold maxLen at hcm
  have H := Lib.hid h
  clear h
  go_enter Try.func7, Try.ntmps7
  go_wp2_with fail
  refine (awake09 w).mono ?_
  rintro e w1 ⟨rfl, f1⟩
  have FW : Hid (Fresh w w1) := f1
  replace H := Lib.hid (H.out.touch f1 (fun _ _ _ h => h))
  clear f1
  simp only
  go_upto_if 14 with (fail)
  go_cut [1] (fun s1 wx => ∃ L : List Int, s1 = .slice A L.length c ∧ L.length ≤ 20 ∧ Hid (Rd intE w1 A c L) ∧ wx = w1)
  case first =>
    by_cases h20 : 20 < l.length
    · have h20i : (20 : Int) < (l.length : Int) := by omega
      have RT : Hid (Rd intE w1 A c (l.take 20)) := H.out.upto (by omega)
      have hLl : (l.take 20).length = 20 := by rw [List.length_take]; omega
      obtain ⟨g, o, rfl, _, _⟩ := H.out.int_at 0 (by omega)
      have hc20 : (20 : Int) ≤ (c : Int) := by omega
      clear h20
      go_wp2
      go_meet
      case rel => exact ⟨l.take 20, by rw [hLl], by omega, RT, rfl⟩
    · have h20i : ¬ (20 : Int) < (l.length : Int) := by omega
      have h20n : l.length ≤ 20 := by omega
      clear h20
      go_wp2
      go_meet
      case rel => exact ⟨l, rfl, h20n, H, rfl⟩
  case rest =>
    obtain ⟨L, rfl, hL20, HL, rfl⟩ := hcut
    clear H hlc
    go_wp2_with fail
    go_loopw [5, 19] (fun s5 i wr => ∃ (k : Nat) (D : Option Addr) (e : Nat) (M : List Int), k ≤ L.length ∧ i = .int .i64 k ∧ s5 = .slice D M.length e ∧ Hid (M = Gp.ow L k) ∧ Hid (Mine intE wc wr D e M) ∧ M.length = k) (fun _ i _ => L.length - (intOf i).toNat)
    case atStart => exact ⟨0, none, 0, [], by omega, rfl, rfl, rfl, Mine.nil _ _, rfl⟩
    case round =>
      obtain ⟨k, D, e, M, hkL, rfl, rfl, HMe, HM, hMl⟩ := hrel
      by_cases hk : k < L.length
      · have hk1 : (k : Int) < (L.length : Int) := by omega
        have hdk1 : decide ((k : Int) < (L.length : Int)) = true := decide_eq_true hk1
        have hk0 : (0 : Int) ≤ (k : Int) := by omega
        obtain ⟨g, o, rfl, _, c0⟩ := (HM.out.keepsR HL.out).int_at k hk
        have HS : Hid (Gp.ow L (k + 1) = M ++ [if k % 2 = 1 then (M.getD (k - 1) 0 + L.getD k 0 % 16777216 % 64) % 16777216 else L.getD k 0 % 16777216]) := by unfold Hid; rw [HMe.out]; rfl
        generalize L.getD k 0 = x at *
        go_upto_region 9 with (fail)
        go_wp2_with fail
        refine (r01of_any x wr).mono ?_
        rintro e1 w4 ⟨rfl, rfl⟩
        have hxb : 0 ≤ x % 16777216 ∧ x % 16777216 < 16777216 := by omega
        generalize x % 16777216 = y at *
        simp only
        by_cases hpar : k % 2 = 1
        · have hm1 : (k : Int).tmod 2 = 1 := by rw [Int.tmod_eq_emod_of_nonneg (by omega)]; omega
          rw [if_pos hpar] at HS
          have h63 := Gp.and_63' y
          have hyb : 0 ≤ y % 64 ∧ y % 64 < 64 := by omega
          generalize y % 64 = z at *
          obtain ⟨j, rfl⟩ : ∃ j, k = j + 1 := ⟨k - 1, by omega⟩
          rw [Nat.add_sub_cancel] at HS
          obtain ⟨g2, o2, rfl, _, c1⟩ := HM.out.sl.int_at j (by omega)
          have hj1 : (j : Int) < (M.length : Int) := by omega
          have hj0 : (0 : Int) ≤ (j : Int) := by omega
          have hjs : ((j + 1 : Nat) : Int) - 1 = (j : Int) := by omega
          have hub : 0 ≤ M.getD j 0 ∧ M.getD j 0 < 16777216 := by
            have hj : j < M.length := by omega
            have := Gp.ow_bd L (j + 1) (M.getD j 0) (by rw [← HMe.out, List.getD_eq_getElem?_getD, List.getElem?_eq_getElem hj]; exact List.getElem_mem hj)
            exact this
          generalize M.getD j 0 = u at *
          have HC := Lib.hid (r01of_any (u + z))
          have huz : -4611686018427387904 ≤ u + z ∧ u + z < 4611686018427387904 := by omega
          generalize (u + z) % 16777216 = v at *
          go_wp2_with fail
          refine (HC.out _).mono ?_
          rintro e1 w5 ⟨rfl, rfl⟩
          clear HC h63
          simp only
          go_wp2_with (at_builtin; refine app_int rfl rfl (l := M) (l2 := [v]) rfl rfl (HM.out.sl.alloc _) (Sl.rd (Sl.lit intE _ _ rfl _ _ rfl _ rfl (by decide))) (by simp; omega) ?_; intro B4 d4 M4 w5 hM4 hs4 ht4 hB4)
          have HM5 := Lib.hid ((HM.out.alloc (.cells #[.int .i64 v] 3)).app hs4 ht4 hB4)
          rw [← hM4.out] at HS
          have hl4 : M4.length = j + 1 + 1 := by rw [hM4.out]; simp; omega
          clear hs4 ht4 hB4 hM4 HM c0 c1 HMe hpar
          go_roundw
          case rel => exact ⟨j + 1 + 1, B4, d4, M4, by omega, by go_num, rfl, HS.out.symm, HM5, hl4⟩
          case measure => simp [intOf]; omega
        · have hm1 : (k : Int).tmod 2 = 0 := by rw [Int.tmod_eq_emod_of_nonneg (by omega)]; omega
          rw [if_neg hpar] at HS
          go_wp2_with (at_builtin; refine app_int rfl rfl (l := M) (l2 := [y]) rfl rfl (HM.out.sl.alloc _) (Sl.rd (Sl.lit intE _ _ rfl _ _ rfl _ rfl (by decide))) (by simp; omega) ?_; intro B4 d4 M4 w5 hM4 hs4 ht4 hB4)
          have HM5 := Lib.hid ((HM.out.alloc (.cells #[.int .i64 y] 3)).app hs4 ht4 hB4)
          rw [← hM4.out] at HS
          have hl4 : M4.length = k + 1 := by rw [hM4.out]; simp; omega
          clear hs4 ht4 hB4 hM4 HM c0 HMe hpar
          go_roundw
          case rel => exact ⟨k + 1, B4, d4, M4, by omega, by go_num, rfl, HS.out.symm, HM5, hl4⟩
          case measure => simp [intOf]; omega
      · have hkk : k = L.length := by omega
        have hk1 : ¬ (k : Int) < (L.length : Int) := by omega
        have hdk1 : decide ((k : Int) < (L.length : Int)) = false := decide_eq_false hk1
        have HB : Hid (∀ v ∈ M, 0 ≤ v ∧ v < 16777216) := by unfold Hid; rw [HMe.out]; exact Gp.ow_bd L k
        have hM20 : M.length ≤ 20 := by omega
        have RO : Hid (Rd intE wr D e M) := HM.out.sl.rd
        replace FW := Lib.hid (FW.out.trans HM.out.fresh (fun _ _ h => h))
        have HMM := Lib.hid (Gp.map_mod M HB.out)
        clear hk HMe HM HL hMl hkk
        go_wp2_with fail
        have HNU := Lib.hid (nums09_any D e M wr RO.out (by omega))
        rw [HMM.out] at HNU
        refine HNU.out.mono ?_
        rintro e1 w2 ⟨P, p, rfl, MP⟩
        have RP : Hid (Rd numE w2 P p M) := MP.sl.rd
        replace FW := Lib.hid (FW.out.trans MP.fresh (fun _ _ h => h))
        replace RO := Lib.hid (RO.out.touch MP.fresh (fun _ _ _ h => h))
        clear MP HNU HMM
        simp only
        have hpar : ∀ V : Value, (pduV kind 0 0 0 0 P M.length p false ByteArray.empty) = .agg #[.int .i64 kind, .int .i64 0, .int .u32 0, .int .u32 0, .int .u32 0, .slice P M.length p, .bool false, .string ByteArray.empty] := fun _ => rfl
        have HPD := Lib.hid hpar
        clear hpar
        by_cases hk11 : kind = 11 ∨ kind = 12
        · have HNA : Hid (∀ W, Fresh w2 W → Calls Try.prog 33 #[.agg #[.int .i64 kind, .int .i64 0, .int .u32 0, .int .u32 0, .int .u32 0, .slice P M.length p, .bool false, .string ByteArray.empty]] W fun e w' => ∃ C d, e = .returned (.slice C (Gp.nm 65536 M (M.length / 2)).length d) ∧ Mine numE W w' C d (Gp.nm 65536 M (M.length / 2))) := fun W hf =>
            named_any kind 0 0 0 0 P p M false ByteArray.empty W (RP.out.touch hf (fun _ _ _ h => h)) (by omega) hk11
          have HLE : Hid (((Gp.nm 65536 M (M.length / 2)).length : Int) ≤ Gp.gc M (M.length / 2)) := (Gp.nm_len 65536 M (M.length / 2)).2
          have HNB : Hid (∀ x ∈ Gp.nm 65536 M (M.length / 2), 0 ≤ x ∧ x < 16777216) := Gp.nm_bd 65536 M (M.length / 2)
          have HRN : Hid (∀ W, Fresh w2 W → Calls Try.prog 35 #[.slice D M.length e, .int .i64 65536] W fun e w' => ∃ C d, e = .returned (.slice C (Gp.nm 65536 M (M.length / 2)).length d) ∧ Mine intE W w' C d (Gp.nm 65536 M (M.length / 2))) := fun W hf =>
            rnm_any D e M 65536 W (RO.out.touch hf (fun _ _ _ h => h)) (by omega) (by omega)
          have HCO : Hid (∀ W, Fresh w2 W → Calls Try.prog 20 #[.slice P M.length p] W fun e w' => e = .returned (.int .i64 (Gp.gc M (M.length / 2))) ∧ Fresh W w') := fun W hf => count_any P p M W (RP.out.touch hf (fun _ _ _ h => h)) (by omega)
          have hgcb := Gp.gc_bd M (M.length / 2)
          have hnml := (Gp.nm_len 65536 M (M.length / 2)).1
          generalize Gp.nm 65536 M (M.length / 2) = N at *
          generalize Gp.gc M (M.length / 2) = gc at *
          clear RP RO HPD HB
          obtain ⟨k1, hk1⟩ : ∃ k1 : Bool, (kind != 11) = k1 := ⟨_, rfl⟩
          obtain ⟨k2, hk2⟩ : ∃ k2 : Bool, (kind != 12) = k2 := ⟨_, rfl⟩
          have hkk : k1 = false ∨ (k1 = true ∧ k2 = false) := by
            rcases hk11 with rfl | rfl
            · left; rw [← hk1]; rfl
            · right; rw [← hk1, ← hk2]; exact ⟨rfl, rfl⟩
          clear hk11
          go_wp2_with fail
          have FA : Hid (Fresh w2 (w2.alloc (.cells #[.int .i64 kind, .int .i64 0, .int .u32 0, .int .u32 0, .int .u32 0, .slice P M.length p, .bool false, .string { data := #[] }] 52))) := (Touch.refl _ _).alloc _
          have BA : Hid (Blk (w2.alloc (.cells #[.int .i64 kind, .int .i64 0, .int .u32 0, .int .u32 0, .int .u32 0, .slice P M.length p, .bool false, .string { data := #[] }] 52)) w2.heap.size 52 [.int .i64 kind, .int .i64 0, .int .u32 0, .int .u32 0, .int .u32 0, .slice P M.length p, .bool false, .string { data := #[] }]) := Blk.new w2 _ _
          generalize w2.alloc (.cells #[.int .i64 kind, .int .i64 0, .int .u32 0, .int .u32 0, .int .u32 0, .slice P M.length p, .bool false, .string { data := #[] }] 52) = wA at *
          obtain ⟨g, hg⟩ : ∃ g, g = w2.heap.size := ⟨_, rfl⟩
          rw [← hg] at BA ⊢
          clear hg
          refine (HNA.out wA FA.out).mono ?_
          rintro e1 w3 ⟨C, d, rfl, M3⟩
          have F3 : Hid (Fresh w2 w3) := FA.out.trans M3.fresh (fun _ _ h => h)
          have B3 := Lib.hid (M3.fresh.blk BA.out (fun h => h))
          have R3 : Hid (Rd numE w3 C d N) := M3.sl.rd
          clear M3 HNA BA FA
          simp only
          rcases hkk with rfl | ⟨rfl, rfl⟩
          all_goals
            go_wp2_with fail
            refine (HRN.out w3 F3.out).mono ?_
            rintro e1 w4 ⟨C4, d4, rfl, M4⟩
            have F4 : Hid (Fresh w2 w4) := F3.out.trans M4.fresh (fun _ _ h => h)
            have B4 := Lib.hid (M4.fresh.blk B3.out (fun h => h))
            have HSM := Lib.hid (same09_true C d C4 d4 N w4 (R3.out.touch M4.fresh (fun _ _ _ h => h)) M4.sl.rd HNB.out)
            clear M4 HRN B3 F3 R3
            simp only
            go_wp2_with fail
            refine HSM.out.mono ?_
            rintro e1 w5 ⟨rfl, f5⟩
            have F5 : Hid (Fresh w2 w5) := F4.out.trans f5 (fun _ _ h => h)
            have c5 : w5.cell? ⟨g, 5, none⟩ = some (.slice P M.length p) := (f5.blk B4.out (fun h => h)).cell 5
            clear f5 F4 B4 HSM
            simp only
            go_wp2_with fail
            refine (HCO.out w5 F5.out).mono ?_
            rintro e1 w6 ⟨rfl, f6⟩
            have F6 : Hid (Fresh w w6) := (FW.out.trans F5.out (fun _ _ h => h)).trans f6 (fun _ _ h => h)
            have hle := HLE.out
            have hld : decide ((N.length : Int) ≤ gc) = true := decide_eq_true hle
            clear f6 F5 HCO HLE HNB FW c5
            simp only
            go_wp2
            go_ret
            exact ⟨by first | rfl | simp [hle], F6.out.below (Nat.le_refl _) (fun _ _ h => h)⟩
        · have hk1' : kind ≠ 11 := fun h => hk11 (.inl h)
          have hk2' : kind ≠ 12 := fun h => hk11 (.inr h)
          have HNO := Lib.hid (fun W => named_no kind 0 0 0 0 P p M false ByteArray.empty W hk1' hk2')
          rw [HPD.out undef] at HNO
          have e1 : (kind != 11) = true := by simpa using hk1'
          have e2 : (kind != 12) = true := by simpa using hk2'
          clear hk11 hk1' hk2' HPD
          go_wp2_with fail
          refine (HNO.out _).mono ?_
          rintro ee w3 ⟨rfl, f3⟩
          have F3 : Hid (Fresh w w3) := (FW.out.trans ((Touch.refl (fun _ => False) w2).alloc _) (fun _ _ h => h)).trans f3 (fun _ _ h => h)
          clear f3 HNO
          simp only
          go_wp2
          go_ret
          exact ⟨by first | rfl | simp, F3.out.below (Nat.le_refl _) (fun _ _ h => h)⟩

set_option maxRecDepth 10000 in
theorem gapsNamed.walk (kind : Int) (v : Value) (w : World) (_h0 : (Lit.int .i64 kind).wf = true) {H : Type} {enc : TypeId × Value → H} {b0 : Nat} {d : DataW H} {p : List MemPlace} (hv : Value.okWide Try.prog w .any b0 25 v) (h : DataW.Trod enc Try.prog w 0 (fun _ => true) true 25 v d p) :
    Calls Try.prog 7 #[.int .i64 kind, v] w fun e w' => e = .returned (.bool true) ∧ Below w.heap.size w w' := by
  obtain ⟨A, c, l, rfl, hr, _⟩ := open_rd_int hv h
  exact gapsNamed.core kind A c l w hr
end Go.Proofs.Ytlfapnapkdnldaa

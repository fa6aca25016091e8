/-
  polliwoglaw11: near, nums, own, of.
-/
import Derived.Test.YtajdnllkkekmnaaGreatSfB
import Derived.Test.YtajdnllkkekmnaaGreatGapE
import Derived.Test.YtajdnllkkekmnaaGreatNum
import Derived.Test.YtajdnllkkekmnaaGreatSeq
import Derived.Deep.RegionLaw
import Derived.Test.YtajdnllkkekmnaaGreatSnd
import Derived.Test.YtajdnllkkekmnaaGreatSfH
import Derived.Test.YtajdnllkkekmnaaGreatSfG
import Derived.Test.YtajdnllkkekmnaaGreatSndO
import Derived.Test.YtajdnllkkekmnaaGreatCut
namespace Go.Proofs.YtajdnllkkekmnaaGreat
open Go.RowKit

def act11V (a : Act11) (A : Option Addr) (c : Nat) : Value := .agg #[.int .i64 a.kind, .int .i64 a.r, .int .i64 a.mr, .int .i64 a.ps, .slice A a.l.length c, .bool a.raw, .string a.m]
def act11C (a : Act11) (A : Option Addr) (c : Nat) : List Value := [.int .i64 a.kind, .int .i64 a.r, .int .i64 a.mr, .int .i64 a.ps, .slice A a.l.length c, .bool a.raw, .string a.m]
theorem and_63' (a : Int) : bits .and .i64 a 63 = a % 64 := and_mask a 6 63 rfl (by omega)
theorem and_3' (a : Int) : bits .and .i64 a 3 = a % 4 := and_mask a 2 3 rfl (by omega)

set_option maxHeartbeats 2000000 in
theorem near11_any (a : Act11) (A : Option Addr) (c : Nat) (base x : Int) (hb : 0 ≤ base ∧ base ≤ 1000000000) (w : World) : Calls Tryz.prog 42 #[act11V a A c, .int .i64 base, .int .i64 x] w fun e w' => e = .returned (.int .i64 (near11 a base x)) ∧ Fresh w w' := by
  obtain ⟨kd, r, mr, ps, l, raw, M⟩ := a
  unfold act11V near11
  simp only
  generalize l.length = n
  cases raw with
  | true =>
    have HO := Lib.hid (r01of_any x)
    simp only [if_true]
    go_enter Tryz.func42, Tryz.ntmps42
    go_wp2_with fail
    refine (HO.out _).mono ?_
    rintro e w1 ⟨rfl, rfl⟩
    simp only
    go_wp2
    go_ret
    exact ⟨rfl, (Touch.refl _ _).alloc _⟩
  | false =>
    have HO := Lib.hid (r01of_any (base + x % 64 - (x / 64) % 4))
    simp only [Bool.false_eq_true, if_false]
    have a1 := and_63' x
    have a2 := and_3' (x / 64)
    go_enter Tryz.func42, Tryz.ntmps42
    go_wp2_with fail
    refine (HO.out _).mono ?_
    rintro e w1 ⟨rfl, rfl⟩
    simp only
    go_wp2
    go_ret
    exact ⟨rfl, (Touch.refl _ _).alloc _⟩

set_option maxHeartbeats 1000000 in
theorem own11_any (A : Option Addr) (c : Nat) (l : List Int) (w : World) (h : Rd intE w A c l) (hl : l.length ≤ 1000000) :
    Calls Tryz.prog 17 #[.slice A l.length c] w fun e w' => ∃ B d, e = .returned (.slice B (l.map fun x => x % 16777216).length d) ∧ Mine numE w w' B d (l.map fun x => x % 16777216) := by
  have H := Lib.hid h
  clear h
  go_enter Tryz.func17, Tryz.ntmps17
  go_wp2_with fail
  go_loopw [3, 8] (fun s3 i wr => ∃ (k : Nat) (B : Option Addr) (d : Nat) (M : List Int), k ≤ l.length ∧ i = .int .i64 k ∧ s3 = .slice B M.length d ∧ Hid (M = (l.take k).map fun x => x % 16777216) ∧ Hid (Mine numE w wr B d M) ∧ M.length ≤ k) (fun _ i _ => l.length - (intOf i).toNat)
  case atStart => exact ⟨0, none, 0, [], by omega, rfl, rfl, rfl, Mine.nil _ _, by simp⟩
  case round =>
    obtain ⟨k, B, d, M, hkl, rfl, rfl, HMe, HM, hMl⟩ := hrel
    by_cases hk : k < l.length
    · have hk1 : (k : Int) < (l.length : Int) := by omega
      have hdk1 : decide ((k : Int) < (l.length : Int)) = true := decide_eq_true hk1
      have hk0 : (0 : Int) ≤ (k : Int) := by omega
      obtain ⟨g, o, rfl, _, c0⟩ := (HM.out.keepsR H.out).int_at k hk
      have HS : Hid ((l.take (k + 1)).map (fun x => x % 16777216) = (l.take k).map (fun x => x % 16777216) ++ [l.getD k 0 % 16777216]) := by
        unfold Hid
        rw [List.take_succ_eq_append_getElem hk, List.map_append]
        simp [List.getD, List.getElem?_eq_getElem hk]
      rw [← HMe.out] at HS
      generalize l.getD k 0 = x at *
      go_wp2_with fail
      refine (sof_any x wr).mono ?_
      rintro e w2 ⟨rfl, rfl⟩
      generalize x % 16777216 = y at *
      simp only
      go_wp2_with (at_builtin; refine app_num rfl rfl (l := M) (l2 := [y]) rfl rfl (HM.out.sl.alloc _) (Sl.rd (Sl.lit numE _ _ rfl _ _ rfl _ rfl (by decide))) (by simp; omega) ?_; intro B4 d4 M4 w4 hM4 hs4 ht4 hB4)
      have HM5 := Lib.hid ((HM.out.alloc (.cells #[.int .u32 y] 27)).app hs4 ht4 hB4)
      rw [← hM4.out] at HS
      have hl4 : M4.length ≤ k + 1 := by rw [hM4.out]; simp; omega
      clear hs4 ht4 hB4 hM4 HM c0 HMe
      go_roundw
      case rel => exact ⟨k + 1, B4, d4, M4, by omega, by go_num, rfl, HS.out.symm, HM5, hl4⟩
      case measure => simp [intOf]; omega
    · have hkk : k = l.length := by omega
      have HR : Hid (M = l.map fun x => x % 16777216) := by unfold Hid; rw [HMe.out, hkk, List.take_length]
      have hk' : ¬ ((k : Int) < (l.length : Int)) := by omega
      clear hk HMe hkk
      go_wp2
      go_ret
      have hml : M.length = l.length := by rw [HR.out, List.length_map]
      exact ⟨B, d, by rw [← hml]; rfl, HR.out ▸ HM.out⟩

theorem lof11_any (a x : Int) (ha : 0 ≤ a ∧ a < 16777216) (w : World) : Calls Tryz.prog 37 #[.int .u32 a, .int .i64 x] w fun e w' => e = .returned (.bool (a == x % 16777216)) ∧ w' = w := by
  have HO := Lib.hid (r01of_any x)
  generalize x % 16777216 = y at *
  go_enter Tryz.func37, Tryz.ntmps37
  go_wp2_with fail
  refine (HO.out w).mono ?_
  rintro e w1 ⟨rfl, rfl⟩
  simp only
  go_wp2
  go_ret
  exact ⟨rfl, rfl⟩
theorem lof11_true (x : Int) (w : World) : Calls Tryz.prog 37 #[.int .u32 (x % 16777216), .int .i64 x] w fun e w' => e = .returned (.bool true) ∧ w' = w := by
  refine (lof11_any (x % 16777216) x (by omega) w).mono ?_
  rintro e w' ⟨rfl, rfl⟩
  exact ⟨by simp, rfl⟩
end Go.Proofs.YtajdnllkkekmnaaGreat

namespace Go.Proofs.YtajdnllkkekmnaaGreat
open Go.RowKit

set_option maxHeartbeats 4000000 in
set_option maxRecDepth 4000 in
theorem nums11_any (a : Act11) (A : Option Addr) (c : Nat) (x : Sf.S) (P : SfP) (w : World) (hA : Rd intE w A c a.l) (hl : a.l.length ≤ 9223372036854775807) (hb : 0 ≤ x.a ∧ x.a ≤ 100000000 ∧ 0 ≤ x.s ∧ x.s ≤ 100000000 ∧ 0 ≤ x.pa ∧ x.pa ≤ 100000000) :
    Calls Tryz.prog 15 #[act11V a A c, sfV x P] w fun e w' => ∃ C d, e = .returned (.tuple #[.int .i64 (Sf.numR x a), .int .i64 (Sf.numM x a), .int .i64 (Sf.numP x a), .slice C (Sf.numL x a).length d]) ∧ Mine intE w w' C d (Sf.numL x a) := by
  have HR := Lib.hid (fun W => near11_any a A c x.a a.r (by omega) W)
  have HM := Lib.hid (fun W => near11_any a A c x.s a.mr (by omega) W)
  have HP := Lib.hid (fun W => near11_any a A c x.pa a.ps (by omega) W)
  have HL := Lib.hid (fun W y => near11_any a A c (Sf.numR x a) y (by have := near11_bd a x.a a.r; unfold Sf.numR; omega) W)
  have HA := Lib.hid hA
  have hlc := hA.1
  have hcm := hA.2.1
  unfold maxLen at hcm
  have HBA : Hid (Blk (w.alloc (.cells #[.int .i64 a.kind, .int .i64 a.r, .int .i64 a.mr, .int .i64 a.ps, .slice A a.l.length c, .bool a.raw, .string a.m] 38)) w.heap.size 38 (act11C a A c)) := Blk.new w _ (act11C a A c)
  have HBX : Hid (Blk ((w.alloc (.cells #[.int .i64 a.kind, .int .i64 a.r, .int .i64 a.mr, .int .i64 a.ps, .slice A a.l.length c, .bool a.raw, .string a.m] 38)).alloc (.cells #[.int .i64 x.s, .int .i64 x.a, .int .i64 x.ms, .int .i64 x.ps, .int .i64 x.pa, .int .i64 x.units, .int .i64 x.polls, .int .i64 (x.most : Int), .slice P.W x.wait.length P.cw, .slice P.K x.kept.length P.ck, .slice P.L x.last.length P.cl, .slice P.G x.again.length P.cg] 33)) (w.heap.size + 1) 33 (sfCells x P)) := by
    have := Blk.new (w.alloc (.cells #[.int .i64 a.kind, .int .i64 a.r, .int .i64 a.mr, .int .i64 a.ps, .slice A a.l.length c, .bool a.raw, .string a.m] 38)) 33 (sfCells x P)
    rwa [show ∀ o, (w.alloc o).heap.size = w.heap.size + 1 from fun o => by simp] at this
  have HBA2 := Lib.hid (HBA.out.alloc (.cells #[.int .i64 x.s, .int .i64 x.a, .int .i64 x.ms, .int .i64 x.ps, .int .i64 x.pa, .int .i64 x.units, .int .i64 x.polls, .int .i64 (x.most : Int), .slice P.W x.wait.length P.cw, .slice P.K x.kept.length P.ck, .slice P.L x.last.length P.cl, .slice P.G x.again.length P.cg] 33))
  have F2 : Hid (Fresh w ((w.alloc (.cells #[.int .i64 a.kind, .int .i64 a.r, .int .i64 a.mr, .int .i64 a.ps, .slice A a.l.length c, .bool a.raw, .string a.m] 38)).alloc (.cells #[.int .i64 x.s, .int .i64 x.a, .int .i64 x.ms, .int .i64 x.ps, .int .i64 x.pa, .int .i64 x.units, .int .i64 x.polls, .int .i64 (x.most : Int), .slice P.W x.wait.length P.cw, .slice P.K x.kept.length P.ck, .slice P.L x.last.length P.cl, .slice P.G x.again.length P.cg] 33))) := ((Touch.refl _ w).alloc _).alloc _
  unfold act11V at *
  unfold sfV
  clear hA HBA hb
  have HRE : Hid (near11 a x.a a.r = Sf.numR x a) := rfl
  have HME : Hid (near11 a x.s a.mr = Sf.numM x a) := rfl
  have HPE : Hid (near11 a x.pa a.ps = Sf.numP x a) := rfl
  have HLE : Hid (Sf.numL x a = (a.l.take 12).map (near11 a (Sf.numR x a))) := rfl
  rw [HRE.out] at HR
  rw [HME.out] at HM
  rw [HPE.out] at HP
  generalize Sf.numR x a = nr at *
  generalize Sf.numM x a = nm at *
  generalize Sf.numP x a = np at *
  generalize Sf.numL x a = nl at *
  go_enter Tryz.func15, Tryz.ntmps15
  go_upto_region 1 with (fail)
  generalize World.alloc (World.alloc w _) _ = w2 at *
  have a0 : w2.cell? ⟨w.heap.size, 0, none⟩ = some (.int .i64 a.kind) := HBA2.out.cell 0
  have a1 : w2.cell? ⟨w.heap.size, 1, none⟩ = some (.int .i64 a.r) := HBA2.out.cell 1
  have a2 : w2.cell? ⟨w.heap.size, 2, none⟩ = some (.int .i64 a.mr) := HBA2.out.cell 2
  have a3 : w2.cell? ⟨w.heap.size, 3, none⟩ = some (.int .i64 a.ps) := HBA2.out.cell 3
  have a4 : w2.cell? ⟨w.heap.size, 4, none⟩ = some (.slice A a.l.length c) := HBA2.out.cell 4
  have a5 : w2.cell? ⟨w.heap.size, 5, none⟩ = some (.bool a.raw) := HBA2.out.cell 5
  have a6 : w2.cell? ⟨w.heap.size, 6, none⟩ = some (.string a.m) := HBA2.out.cell 6
  have x1 : w2.cell? ⟨w.heap.size + 1, 1, none⟩ = some (.int .i64 x.a) := HBX.out.cell 1
  go_wp2_with fail
  refine (HR.out _).mono ?_
  rintro e w3 ⟨rfl, f3⟩
  have BA3 := Lib.hid (f3.blk HBA2.out (fun h => h))
  have BX3 := Lib.hid (f3.blk HBX.out (fun h => h))
  have F3 : Hid (Fresh w w3) := F2.out.trans f3 (fun _ _ h => h)
  clear a0 a1 a2 a3 a4 a5 a6 x1 f3 HBA2 HBX HR
  simp only
  go_wp2_with fail
  go_loopw [9, 10] (fun s9 s10 wr => ∃ (k : Nat) (B : Option Addr) (d : Nat) (M : List Int), k ≤ a.l.length ∧ k ≤ 12 ∧ s10 = .int .i64 k ∧ s9 = .slice B M.length d ∧ M.length ≤ k ∧ Hid (M = (a.l.take k).map (near11 a nr)) ∧ Hid (Mine intE w3 wr B d M)) (fun _ s10 _ => a.l.length - (intOf s10).toNat)
  case atStart => exact ⟨0, none, 0, [], by omega, by omega, rfl, rfl, by simp, rfl, Mine.nil _ _⟩
  case round =>
    obtain ⟨k, B, d, M, hk, hk12, rfl, rfl, hMk, HME2, HMI⟩ := hrel
    have BAr := Lib.hid (HMI.out.fresh.blk BA3.out (fun h => h))
    have BXr := Lib.hid (HMI.out.fresh.blk BX3.out (fun h => h))
    have a0 : wr.cell? ⟨w.heap.size, 0, none⟩ = some (.int .i64 a.kind) := BAr.out.cell 0
    have a1 : wr.cell? ⟨w.heap.size, 1, none⟩ = some (.int .i64 a.r) := BAr.out.cell 1
    have a2 : wr.cell? ⟨w.heap.size, 2, none⟩ = some (.int .i64 a.mr) := BAr.out.cell 2
    have a3 : wr.cell? ⟨w.heap.size, 3, none⟩ = some (.int .i64 a.ps) := BAr.out.cell 3
    have a4 : wr.cell? ⟨w.heap.size, 4, none⟩ = some (.slice A a.l.length c) := BAr.out.cell 4
    have a5 : wr.cell? ⟨w.heap.size, 5, none⟩ = some (.bool a.raw) := BAr.out.cell 5
    have a6 : wr.cell? ⟨w.heap.size, 6, none⟩ = some (.string a.m) := BAr.out.cell 6
    by_cases hlt : k < a.l.length
    · have hlt1 : decide ((k : Int) < (a.l.length : Int)) = true := decide_eq_true (by omega)
      by_cases h12 : k < 12
      · have h121 : decide ((k : Int) < 12) = true := decide_eq_true (by omega)
        have hki : (k : Int) < (a.l.length : Int) := by omega
        have hk0 : (0 : Int) ≤ (k : Int) := by omega
        have RA := Lib.hid (HA.out.touch (F3.out.trans HMI.out.fresh (fun _ _ h => h)) (fun _ _ _ h => h))
        obtain ⟨ga, oa, hAe, _, ca⟩ := RA.out.int_at k hlt
        have hga : ga < w.heap.size := by
          obtain ⟨ga', oa', hAe', hg, _⟩ := HA.out.int_at k hlt
          rw [hAe'] at hAe
          cases hAe
          exact hg
        have HS : Hid ((a.l.take (k + 1)).map (near11 a nr) = M ++ [near11 a nr (a.l.getD k 0)]) := by
          unfold Hid
          rw [List.take_succ_eq_append_getElem hlt, List.map_append, HME2.out]
          simp [List.getD, List.getElem?_eq_getElem hlt]
        have HLk := Lib.hid (fun W => HL.out W (a.l.getD k 0))
        generalize a.l.getD k 0 = y at *
        generalize near11 a nr y = z at *
        have hsz : w.heap.size ≤ w3.heap.size := F3.out.size
        have HBAlt : Hid (w.heap.size < w3.heap.size) := BA3.out.lt
        have hAc := Lib.hid hAe
        have KE : Hid (∀ W, Touch (fun k => w3.heap.size ≤ k) wr W → W.cell? ⟨w.heap.size, 0, none⟩ = some (.int .i64 a.kind) ∧ W.cell? ⟨w.heap.size, 1, none⟩ = some (.int .i64 a.r) ∧ W.cell? ⟨w.heap.size, 2, none⟩ = some (.int .i64 a.mr) ∧ W.cell? ⟨w.heap.size, 3, none⟩ = some (.int .i64 a.ps) ∧ W.cell? ⟨w.heap.size, 4, none⟩ = some (.slice (some ⟨ga, oa, none⟩) a.l.length c) ∧ W.cell? ⟨w.heap.size, 5, none⟩ = some (.bool a.raw) ∧ W.cell? ⟨w.heap.size, 6, none⟩ = some (.string a.m) ∧ W.cell? ⟨ga, oa + k, none⟩ = some (.int .i64 y)) := fun W ht => by
          have hb := ht.blk BAr.out (by have := HBAlt.out; omega)
          have hb4 := hb.cell 4
          rw [show (act11C a A c)[4]? = some (.slice A a.l.length c) from rfl, hAc.out] at hb4
          refine ⟨hb.cell 0, hb.cell 1, hb.cell 2, hb.cell 3, hb4, hb.cell 5, hb.cell 6, ?_⟩
          have hh := ht.block ga (by have := HMI.out.fresh.size; omega) (by omega)
          rw [← ca]
          simp only [World.cell?, hh]
        rw [hAe] at HLk a4 ⊢
        have T0 : Touch (fun k => w3.heap.size ≤ k) wr wr.drew := (Touch.refl _ _).drew
        have S0 : Hid (Sl intE wr B d M) := HMI.out.sl
        have SB : Hid (∀ ad, B = some ad → w3.heap.size ≤ ad.block) := HMI.out.base
        go_wp2_with fail
        clear a0 a1 a2 a3 a4 a5 a6
        go_region_held3 (fun wx => wx.cell? ⟨w.heap.size, 0, none⟩ = some (.int .i64 a.kind) ∧ wx.cell? ⟨w.heap.size, 1, none⟩ = some (.int .i64 a.r) ∧ wx.cell? ⟨w.heap.size, 2, none⟩ = some (.int .i64 a.mr) ∧ wx.cell? ⟨w.heap.size, 3, none⟩ = some (.int .i64 a.ps) ∧ wx.cell? ⟨w.heap.size, 4, none⟩ = some (.slice (some ⟨ga, oa, none⟩) a.l.length c) ∧ wx.cell? ⟨w.heap.size, 5, none⟩ = some (.bool a.raw) ∧ wx.cell? ⟨w.heap.size, 6, none⟩ = some (.string a.m) ∧ wx.cell? ⟨ga, oa + k, none⟩ = some (.int .i64 y))
          (first
            | with_reducible exact KE.out _ (by with_reducible assumption)
            | exact KE.out _ (Touch.alloc (by with_reducible assumption) _))
          (first
            | (go_simp; go_at_call 42; (with_reducible refine (HLk.out _).mono ?_); rintro e' w5 ⟨rfl, f5⟩; have T5 : Touch (fun k => w3.heap.size ≤ k) wr w5 := T0.trans f5 (fun _ _ h => h.elim); have S5 : Sl intE w5 B d M := (S0.out.drew).touch f5 (fun _ _ h => h))
            | (refine stp_int rfl rfl (l := M) (l2 := [z]) rfl rfl (by exact S5.alloc _) (Sl.rd (Sl.lit intE _ _ rfl _ _ rfl _ rfl (by decide))) (by simp; omega) ?_; intro B6 d6 M6 w6 hM6 hs6 ht6 hB6; have T6 : Touch (fun k => w3.heap.size ≤ k) wr w6 := (T5.alloc (.cells #[.int .i64 z] 3)).trans ht6 (fun k hk e => by cases B with | none => cases e | some ad => have := SB.out ad rfl; simp at e; omega)))
        all_goals
          have M6' : Hid (Mine intE w3 w6 B6 d6 M6) := by
            have h5 : Mine intE w3 w5 B d M := ⟨S5, HMI.out.fresh.trans (T5) (fun k hk e => by omega), SB.out⟩
            exact (h5.alloc (.cells #[.int .i64 z] 3)).app hs6 ht6 hB6
          have hl6 : M6.length ≤ k + 1 := by rw [hM6.out]; simp; omega
          have HM6 : Hid (M6 = (a.l.take (k + 1)).map (near11 a nr)) := by unfold Hid; rw [HS.out, hM6.out]
          clear hs6 ht6 hB6 hM6 T6 T5 S5 f5 T0 KE S0 SB HMI HS HLk
          go_wp2
          go_roundw
          case rel => exact ⟨k + 1, B6, d6, M6, hlt, by omega, by go_num, rfl, hl6, HM6, M6'⟩
          case measure => simp [intOf]; omega
      · have h121 : decide ((k : Int) < 12) = false := decide_eq_false (by omega)
        have HEND : Hid (M = nl) := by unfold Hid; rw [HLE.out, HME2.out, show k = 12 by omega]
        have KE : Hid (∀ W, Fresh wr W → W.cell? ⟨w.heap.size, 0, none⟩ = some (.int .i64 a.kind) ∧ W.cell? ⟨w.heap.size, 1, none⟩ = some (.int .i64 a.r) ∧ W.cell? ⟨w.heap.size, 2, none⟩ = some (.int .i64 a.mr) ∧ W.cell? ⟨w.heap.size, 3, none⟩ = some (.int .i64 a.ps) ∧ W.cell? ⟨w.heap.size, 4, none⟩ = some (.slice A a.l.length c) ∧ W.cell? ⟨w.heap.size, 5, none⟩ = some (.bool a.raw) ∧ W.cell? ⟨w.heap.size, 6, none⟩ = some (.string a.m) ∧ W.cell? ⟨w.heap.size + 1, 0, none⟩ = some (.int .i64 x.s) ∧ W.cell? ⟨w.heap.size + 1, 4, none⟩ = some (.int .i64 x.pa)) := fun W ht => by
          have hb := ht.blk BAr.out (fun h => h)
          have hx := ht.blk BXr.out (fun h => h)
          exact ⟨hb.cell 0, hb.cell 1, hb.cell 2, hb.cell 3, hb.cell 4, hb.cell 5, hb.cell 6, hx.cell 0, hx.cell 4⟩
        have T0 : Fresh wr wr.drew := (Touch.refl _ _).drew
        have M0 := Lib.hid (HMI.out.drewN 1)
        have MF := Lib.hid F3.out
        clear HMI HME2 HL HLE BAr BXr BA3 BX3 HA
        go_wp2_with fail
        clear a0 a1 a2 a3 a4 a5 a6
        go_region_held3 (fun wx => wx.cell? ⟨w.heap.size, 0, none⟩ = some (.int .i64 a.kind) ∧ wx.cell? ⟨w.heap.size, 1, none⟩ = some (.int .i64 a.r) ∧ wx.cell? ⟨w.heap.size, 2, none⟩ = some (.int .i64 a.mr) ∧ wx.cell? ⟨w.heap.size, 3, none⟩ = some (.int .i64 a.ps) ∧ wx.cell? ⟨w.heap.size, 4, none⟩ = some (.slice A a.l.length c) ∧ wx.cell? ⟨w.heap.size, 5, none⟩ = some (.bool a.raw) ∧ wx.cell? ⟨w.heap.size, 6, none⟩ = some (.string a.m) ∧ wx.cell? ⟨w.heap.size + 1, 0, none⟩ = some (.int .i64 x.s) ∧ wx.cell? ⟨w.heap.size + 1, 4, none⟩ = some (.int .i64 x.pa))
          (first
            | with_reducible exact KE.out _ (by with_reducible assumption))
          (first
            | (go_simp; go_at_call 42; (with_reducible refine (HM.out _).mono ?_); rintro e' w5 ⟨rfl, f5⟩; have T5 : Fresh wr w5 := T0.trans f5 (fun _ _ h => h))
            | (go_simp; go_at_call 42; (with_reducible refine (HP.out _).mono ?_); rintro e' w6 ⟨rfl, f6⟩; have T6 : Fresh wr w6 := T5.trans f6 (fun _ _ h => h)))
        all_goals
          have MZ : Hid (Mine intE w w6 B d M) := by
            have h5 : Mine intE w3 w6 B d M := ⟨M0.out.sl.touch (f5.trans f6 (fun _ _ h => h)) (fun _ _ h => h), M0.out.fresh.trans (f5.trans f6 (fun _ _ h => h)) (fun _ _ h => h), M0.out.base⟩
            exact h5.back MF.out
          clear T0 T5 T6 f5 f6 KE M0
          go_wp2
          exact bodyPost_ret (results_tmp4 rfl _ _ _) rfl ⟨B, d, by rw [← HEND.out]; rfl, HEND.out ▸ MZ.out⟩
    · obtain rfl : k = a.l.length := by omega
      have hlt1 : decide ((a.l.length : Int) < (a.l.length : Int)) = false := decide_eq_false (by omega)
      have HEND : Hid (M = nl) := by unfold Hid; rw [HLE.out, HME2.out, List.take_length, List.take_of_length_le (by omega)]
      have KE : Hid (∀ W, Fresh wr W → W.cell? ⟨w.heap.size, 0, none⟩ = some (.int .i64 a.kind) ∧ W.cell? ⟨w.heap.size, 1, none⟩ = some (.int .i64 a.r) ∧ W.cell? ⟨w.heap.size, 2, none⟩ = some (.int .i64 a.mr) ∧ W.cell? ⟨w.heap.size, 3, none⟩ = some (.int .i64 a.ps) ∧ W.cell? ⟨w.heap.size, 4, none⟩ = some (.slice A a.l.length c) ∧ W.cell? ⟨w.heap.size, 5, none⟩ = some (.bool a.raw) ∧ W.cell? ⟨w.heap.size, 6, none⟩ = some (.string a.m) ∧ W.cell? ⟨w.heap.size + 1, 0, none⟩ = some (.int .i64 x.s) ∧ W.cell? ⟨w.heap.size + 1, 4, none⟩ = some (.int .i64 x.pa)) := fun W ht => by
        have hb := ht.blk BAr.out (fun h => h)
        have hx := ht.blk BXr.out (fun h => h)
        exact ⟨hb.cell 0, hb.cell 1, hb.cell 2, hb.cell 3, hb.cell 4, hb.cell 5, hb.cell 6, hx.cell 0, hx.cell 4⟩
      have T0 : Fresh wr wr.drew := (Touch.refl _ _).drew
      have M0 := Lib.hid (HMI.out.drewN 1)
      have MF := Lib.hid F3.out
      clear HMI HME2 HL HLE BAr BXr BA3 BX3 HA
      go_wp2_with fail
      clear a0 a1 a2 a3 a4 a5 a6
      go_region_held3 (fun wx => wx.cell? ⟨w.heap.size, 0, none⟩ = some (.int .i64 a.kind) ∧ wx.cell? ⟨w.heap.size, 1, none⟩ = some (.int .i64 a.r) ∧ wx.cell? ⟨w.heap.size, 2, none⟩ = some (.int .i64 a.mr) ∧ wx.cell? ⟨w.heap.size, 3, none⟩ = some (.int .i64 a.ps) ∧ wx.cell? ⟨w.heap.size, 4, none⟩ = some (.slice A a.l.length c) ∧ wx.cell? ⟨w.heap.size, 5, none⟩ = some (.bool a.raw) ∧ wx.cell? ⟨w.heap.size, 6, none⟩ = some (.string a.m) ∧ wx.cell? ⟨w.heap.size + 1, 0, none⟩ = some (.int .i64 x.s) ∧ wx.cell? ⟨w.heap.size + 1, 4, none⟩ = some (.int .i64 x.pa))
        (first
          | with_reducible exact KE.out _ (by with_reducible assumption))
        (first
          | (go_simp; go_at_call 42; (with_reducible refine (HM.out _).mono ?_); rintro e' w5 ⟨rfl, f5⟩; have T5 : Fresh wr w5 := T0.trans f5 (fun _ _ h => h))
          | (go_simp; go_at_call 42; (with_reducible refine (HP.out _).mono ?_); rintro e' w6 ⟨rfl, f6⟩; have T6 : Fresh wr w6 := T5.trans f6 (fun _ _ h => h)))
      all_goals
        have MZ : Hid (Mine intE w w6 B d M) := by
          have h5 : Mine intE w3 w6 B d M := ⟨M0.out.sl.touch (f5.trans f6 (fun _ _ h => h)) (fun _ _ h => h), M0.out.fresh.trans (f5.trans f6 (fun _ _ h => h)) (fun _ _ h => h), M0.out.base⟩
          exact h5.back MF.out
        clear T0 T5 T6 f5 f6 KE M0
        go_wp2
        exact bodyPost_ret (results_tmp4 rfl _ _ _) rfl ⟨B, d, by rw [← HEND.out]; rfl, HEND.out ▸ MZ.out⟩
end Go.Proofs.YtajdnllkkekmnaaGreat

namespace Go.Proofs.YtajdnllkkekmnaaGreat
open Go.RowKit

theorem str_eq {s t : ByteArray} (h : s = t) : (s.toList == t.toList) = true := by rw [h]; exact beq_iff_eq.2 rfl

set_option maxHeartbeats 8000000 in
set_option maxRecDepth 8000 in
theorem is11_any (p : Nat) (F : Nat → Prop) (P : SfP) (x : Sf.S) (lo hi : Int) (hok : Sf.Ok x lo hi) (w : World) (h : SendAt w p F (Sf.prog x)) (hin : SfIn w P x) :
    Calls Tryz.prog 12 #[.pointer (some ⟨p, 0, none⟩), sfV x P] w fun e w' => e = .returned (.bool true) ∧ Fresh w w' := by
  have HV : Hid (∀ W, Fresh w W → Calls Tryz.prog 13 #[.pointer (some ⟨p, 0, none⟩)] W fun e w' => ∃ A' c', e = .returned (.agg #[.int .u32 (x.s % 16777216), .int .u32 (x.a % 16777216), .int .u32 (x.ms % 16777216), .int .u32 (x.ps % 16777216), .int .u32 (x.pa % 16777216), .int .i64 x.units, .int .i64 (x.wait.length : Int), .int .i64 (x.kept.length : Int), .slice A' x.again.length c']) ∧ Mine numE W w' A' c' (Sf.pa x.again)) := fun W hf => by
    have hl : (Sf.prog x).again.length ≤ 16777216 := by show (Sf.pa x.again).length ≤ _; have := hok.again_len; have := hok.kl; simp [Sf.pa]; omega
    refine (svars_any p F (Sf.prog x) W (h.old hf) hl).mono ?_
    rintro e w' ⟨A', c', rfl, m⟩
    refine ⟨A', c', ?_, m⟩
    have e1 : (Sf.prog x).m.length = x.kept.length := hok.m_len
    have e2 : (Sf.prog x).again.length = x.again.length := by show (Sf.pa x.again).length = _; simp [Sf.pa]
    rw [Sd.varsV]
    rw [e1, e2]
    rfl
  have HLE : Hid (∀ W, Fresh w W → Calls Tryz.prog 38 #[.pointer (some ⟨p, 0, none⟩)] W fun e w' => ∃ B d, e = .returned (.slice B (x.kept ++ x.wait).length d) ∧ Mine strE W w' B d (x.kept ++ x.wait)) := fun W hf => sleft_any p F x lo hi hok W (h.old hf)
  have HID : Hid (∀ W, Fresh w W → ∀ n, Calls Tryz.prog 28 #[.pointer (some ⟨p, 0, none⟩)] (W.drewN n) fun e w' => e = .returned (.bool (decide (x.wait.length = 0) && decide (x.kept.length = 0))) ∧ ∃ n', w' = W.drewN n') := fun W hf n => by
    refine (sidle_any p F (Sf.prog x) (W.drewN n) ((h.old hf).drewN n)).mono ?_
    rintro e w' ⟨rfl, m, rfl⟩
    have e1 : (Sf.prog x).m.length = x.kept.length := hok.m_len
    refine ⟨by rw [e1]; rfl, n + m, ?_⟩
    rw [World.drewN_drewN]
  have HLA : Hid (∀ W, Fresh w W → ∀ n, Calls Tryz.prog 27 #[.pointer (some ⟨p, 0, none⟩)] (W.drewN n) fun e w' => e = .returned (.bool (decide (0 < x.wait.length) && (x.s == x.ms))) ∧ ∃ n', w' = W.drewN n') := fun W hf n => by
    refine (slacks_any p F (Sf.prog x) (W.drewN n) ((h.old hf).drewN n)).mono ?_
    rintro e w' ⟨rfl, m, rfl⟩
    have e1 : ((x.s % 16777216 == x.ms % 16777216) : Bool) = (x.s == x.ms) := by
      have := hok.sms
      have := hok.msa
      have := hok.klen
      rw [Bool.eq_iff_iff]
      simp only [beq_iff_eq]
      omega
    refine ⟨by rw [← e1]; rfl, n + m, ?_⟩
    rw [World.drewN_drewN]
  have HDU : Hid (∀ W, Fresh w W → ∀ n, Calls Tryz.prog 39 #[.pointer (some ⟨p, 0, none⟩)] (W.drewN n) fun e w' => e = .returned (.bool (decide (x.polls ≤ x.units))) ∧ ∃ n', w' = W.drewN n') := fun W hf n => by
    refine (sdue_any p F (Sf.prog x) (W.drewN n) ((h.old hf).drewN n)).mono ?_
    rintro e w' ⟨rfl, m, rfl⟩
    refine ⟨rfl, n + m, ?_⟩
    rw [World.drewN_drewN]
  have eg : ∀ args w, (callFunc 37 args).run Tryz.prog w = .ok (.enter 37 args) w := enters_of Tryz.func37 (by kernel_rfl) rfl
  have HIN := Lib.hid hin
  have hwl := hok.wlen
  have hmo := hok.most
  have hkl := hok.kl
  have hag : x.again.length ≤ 4000 := by have := hok.again_len; omega
  have H0 := Lib.hid (lof11_true x.s)
  have H1 := Lib.hid (lof11_true x.a)
  have H2 := Lib.hid (lof11_true x.ms)
  have H3 := Lib.hid (lof11_true x.ps)
  have H4 := Lib.hid (lof11_true x.pa)
  have HB : Hid (Blk (w.alloc (.cells #[.int .i64 x.s, .int .i64 x.a, .int .i64 x.ms, .int .i64 x.ps, .int .i64 x.pa, .int .i64 x.units, .int .i64 x.polls, .int .i64 (x.most : Int), .slice P.W x.wait.length P.cw, .slice P.K x.kept.length P.ck, .slice P.L x.last.length P.cl, .slice P.G x.again.length P.cg] 33)) w.heap.size 33 (sfCells x P)) := Blk.new w _ (sfCells x P)
  clear h hin hok
  unfold sfV
  go_enter Tryz.func12, Tryz.ntmps12
  go_wp2_with fail
  refine (HV.out _ ((Touch.refl _ _).alloc _)).mono ?_
  rintro e w2 ⟨A2, c2, rfl, m2⟩
  have B2 := Lib.hid (m2.fresh.blk HB.out (fun h => h))
  have SA := Lib.hid (m2.sl.alloc (.cells #[.int .u32 (x.s % 16777216), .int .u32 (x.a % 16777216), .int .u32 (x.ms % 16777216), .int .u32 (x.ps % 16777216), .int .u32 (x.pa % 16777216), .int .i64 x.units, .int .i64 (x.wait.length : Int), .int .i64 (x.kept.length : Int), .slice A2 x.again.length c2] 43))
  have F3 : Hid (Fresh w (w2.alloc (.cells #[.int .u32 (x.s % 16777216), .int .u32 (x.a % 16777216), .int .u32 (x.ms % 16777216), .int .u32 (x.ps % 16777216), .int .u32 (x.pa % 16777216), .int .i64 x.units, .int .i64 (x.wait.length : Int), .int .i64 (x.kept.length : Int), .slice A2 x.again.length c2] 43))) := (((Touch.refl (fun _ => False) w).alloc _).trans m2.fresh (fun _ _ h => h)).alloc _
  clear m2 HV HB
  simp only
  go_upto_region 2 with (fail)
  have V3 : Hid (Blk (w2.alloc (.cells #[.int .u32 (x.s % 16777216), .int .u32 (x.a % 16777216), .int .u32 (x.ms % 16777216), .int .u32 (x.ps % 16777216), .int .u32 (x.pa % 16777216), .int .i64 x.units, .int .i64 (x.wait.length : Int), .int .i64 (x.kept.length : Int), .slice A2 x.again.length c2] 43)) w2.heap.size 43 [.int .u32 (x.s % 16777216), .int .u32 (x.a % 16777216), .int .u32 (x.ms % 16777216), .int .u32 (x.ps % 16777216), .int .u32 (x.pa % 16777216), .int .i64 x.units, .int .i64 (x.wait.length : Int), .int .i64 (x.kept.length : Int), .slice A2 x.again.length c2]) := Blk.new w2 43 [.int .u32 (x.s % 16777216), .int .u32 (x.a % 16777216), .int .u32 (x.ms % 16777216), .int .u32 (x.ps % 16777216), .int .u32 (x.pa % 16777216), .int .i64 x.units, .int .i64 (x.wait.length : Int), .int .i64 (x.kept.length : Int), .slice A2 x.again.length c2]
  have B3 := Lib.hid (B2.out.alloc (.cells #[.int .u32 (x.s % 16777216), .int .u32 (x.a % 16777216), .int .u32 (x.ms % 16777216), .int .u32 (x.ps % 16777216), .int .u32 (x.pa % 16777216), .int .i64 x.units, .int .i64 (x.wait.length : Int), .int .i64 (x.kept.length : Int), .slice A2 x.again.length c2] 43))
  clear B2
  generalize w2.alloc (.cells #[.int .u32 (x.s % 16777216), .int .u32 (x.a % 16777216), .int .u32 (x.ms % 16777216), .int .u32 (x.ps % 16777216), .int .u32 (x.pa % 16777216), .int .i64 x.units, .int .i64 (x.wait.length : Int), .int .i64 (x.kept.length : Int), .slice A2 x.again.length c2] 43) = w3 at *
  have v0 : w3.cell? ⟨w2.heap.size, 0, none⟩ = some (.int .u32 (x.s % 16777216)) := V3.out.cell 0
  have v1 : w3.cell? ⟨w2.heap.size, 1, none⟩ = some (.int .u32 (x.a % 16777216)) := V3.out.cell 1
  have v2 : w3.cell? ⟨w2.heap.size, 2, none⟩ = some (.int .u32 (x.ms % 16777216)) := V3.out.cell 2
  have v3 : w3.cell? ⟨w2.heap.size, 3, none⟩ = some (.int .u32 (x.ps % 16777216)) := V3.out.cell 3
  have v4 : w3.cell? ⟨w2.heap.size, 4, none⟩ = some (.int .u32 (x.pa % 16777216)) := V3.out.cell 4
  have v5 : w3.cell? ⟨w2.heap.size, 5, none⟩ = some (.int .i64 x.units) := V3.out.cell 5
  have v6 : w3.cell? ⟨w2.heap.size, 6, none⟩ = some (.int .i64 (x.wait.length : Int)) := V3.out.cell 6
  have v7 : w3.cell? ⟨w2.heap.size, 7, none⟩ = some (.int .i64 (x.kept.length : Int)) := V3.out.cell 7
  have v8 : w3.cell? ⟨w2.heap.size, 8, none⟩ = some (.slice A2 x.again.length c2) := V3.out.cell 8
  have b0 : w3.cell? ⟨w.heap.size, 0, none⟩ = some (.int .i64 x.s) := B3.out.cell 0
  have b1 : w3.cell? ⟨w.heap.size, 1, none⟩ = some (.int .i64 x.a) := B3.out.cell 1
  have b2 : w3.cell? ⟨w.heap.size, 2, none⟩ = some (.int .i64 x.ms) := B3.out.cell 2
  have b3 : w3.cell? ⟨w.heap.size, 3, none⟩ = some (.int .i64 x.ps) := B3.out.cell 3
  have b4 : w3.cell? ⟨w.heap.size, 4, none⟩ = some (.int .i64 x.pa) := B3.out.cell 4
  have b5 : w3.cell? ⟨w.heap.size, 5, none⟩ = some (.int .i64 x.units) := B3.out.cell 5
  have b6 : w3.cell? ⟨w.heap.size, 6, none⟩ = some (.int .i64 x.polls) := B3.out.cell 6
  have b7 : w3.cell? ⟨w.heap.size, 7, none⟩ = some (.int .i64 (x.most : Int)) := B3.out.cell 7
  have b8 : w3.cell? ⟨w.heap.size, 8, none⟩ = some (.slice P.W x.wait.length P.cw) := B3.out.cell 8
  have b9 : w3.cell? ⟨w.heap.size, 9, none⟩ = some (.slice P.K x.kept.length P.ck) := B3.out.cell 9
  have ba : w3.cell? ⟨w.heap.size, 10, none⟩ = some (.slice P.L x.last.length P.cl) := B3.out.cell 10
  have bb : w3.cell? ⟨w.heap.size, 11, none⟩ = some (.slice P.G x.again.length P.cg) := B3.out.cell 11
  generalize x.s % 16777216 = y0 at *
  generalize x.a % 16777216 = y1 at *
  generalize x.ms % 16777216 = y2 at *
  generalize x.ps % 16777216 = y3 at *
  generalize x.pa % 16777216 = y4 at *
  go_wp2_with fail
  refine (H0.out _).mono ?_
  rintro e w4 ⟨rfl, rfl⟩
  simp only
  go_wp2_with fail
  refine (H1.out _).mono ?_
  rintro e w5 ⟨rfl, rfl⟩
  simp only
  go_wp2_with fail
  refine (H2.out _).mono ?_
  rintro e w6 ⟨rfl, rfl⟩
  simp only
  go_wp2_with fail
  refine (H3.out _).mono ?_
  rintro e w7 ⟨rfl, rfl⟩
  simp only
  go_wp2_with fail
  refine (H4.out _).mono ?_
  rintro e w8 ⟨rfl, rfl⟩
  simp only
  clear H0 H1 H2 H3 H4
  go_wp2_with fail
  go_loopw [93] (fun s93 wr => ∃ k : Nat, k ≤ x.again.length ∧ s93 = .int .i64 k ∧ wr = w8) (fun s93 _ => x.again.length - (intOf s93).toNat)
  case atStart => exact ⟨0, by omega, rfl, rfl⟩
  case round =>
    obtain ⟨k, hk, rfl, rfl⟩ := hrel
    by_cases hlt : k < x.again.length
    · have hk1 : (k : Int) < (x.again.length : Int) := by omega
      have hk0 : (0 : Int) ≤ (k : Int) := by omega
      obtain ⟨g, o, hge, _, c0⟩ := (HIN.out.old F3.out).again.int_at k hlt
      have hlt2 : k < (Sf.pa x.again).length := by simp [Sf.pa]; omega
      obtain ⟨g', o', hge', _, c0'⟩ := SA.out.num_at k hlt2
      have e1 : (Sf.pa x.again).getD k 0 = x.again.getD k 0 % 16777216 := by simp [Sf.pa, List.getD, List.getElem?_eq_getElem hlt]
      rw [e1] at c0'
      have HN := Lib.hid (lof11_true (x.again.getD k 0))
      generalize x.again.getD k 0 = n at *
      generalize n % 16777216 = n' at *
      rw [hge] at bb ⊢
      rw [hge'] at v8 ⊢
      clear e1
      have HGE := Lib.hid hge
      have HGE' := Lib.hid hge'
      clear hge hge'
      go_wp2_with fail
      refine (HN.out _).mono ?_
      rintro e w9 ⟨rfl, rfl⟩
      simp only
      go_wp2
      go_roundw
      case rel => exact ⟨k + 1, hlt, by go_num, by first | rfl | trivial⟩
      case measure => simp [intOf]; omega
    · obtain rfl : k = x.again.length := by omega
      have hk1 : ¬ ((x.again.length : Nat) : Int) < (x.again.length : Int) := by omega
      have k9 : ∀ o, (wr.alloc o).cell? ⟨w.heap.size, 9, none⟩ = some (.slice P.K x.kept.length P.ck) := fun o => (B3.out.alloc o).cell 9
      have k8 : ∀ o, (wr.alloc o).cell? ⟨w.heap.size, 8, none⟩ = some (.slice P.W x.wait.length P.cw) := fun o => (B3.out.alloc o).cell 8
      have HBd : Hid (Blk wr.drew w.heap.size 33 (sfCells x P)) := B3.out
      have RK : Hid (Rd strE wr P.K P.ck x.kept) := (HIN.out.old F3.out).kept.rd
      have RW : Hid (Rd strE wr P.W P.cw x.wait) := (HIN.out.old F3.out).wait.rd
      have hwl2 : x.wait.length ≤ 256 := by omega
      clear SA V3 v0 v1 v2 v3 v4 v5 v6 v7 v8 b0 b1 b2 b3 b4 b5 b6 b7 ba bb hk hlt hwl
      have HQ : Hid (∀ (L : List ByteArray), L = x.kept ++ x.wait → (L.length : Int) = ((x.kept ++ x.wait).length : Int)) := fun L h => by rw [h]
      go_wp2_with fail
      go_cut [9] (fun s9 wx => ∃ A4 c4 L4, s9 = .slice A4 L4.length c4 ∧ Hid (L4 = x.kept ++ x.wait) ∧ Hid (Mine strE wr wx A4 c4 L4))
      case first =>
        go_region_law (first
          | (refine stp_str rfl rfl (l := []) (l2 := x.kept) rfl rfl (by exact Sl.lit strE _ _ rfl #[] [] rfl 0 rfl (by decide)) (by exact RK.out.touch (((Touch.refl (fun _ => False) wr).alloc _).drew) (fun _ _ _ h => h)) (by simp; omega) ?_
             intro A3 c3 L3 w9 hL3 hs3 ht3 hA3
             have F9 : Fresh wr w9 := Touch.trans (((Touch.refl _ wr).alloc _).drew) ht3 (fun y hy e => by simp at e; omega)
             have A3b : ∀ ad, A3 = some ad → wr.heap.size ≤ ad.block := fun ad e => by
               subst e
               rcases hA3 with e | e <;> (simp at e; omega)
             have hl3 : L3.length ≤ 4000 := by (rw [hL3.out]; simp; omega)
             have hb9 := F9.blk HBd.out (fun h => h)
             have q8 : w9.cell? ⟨w.heap.size, 8, none⟩ = some (.slice P.W x.wait.length P.cw) := hb9.cell 8)
          | (refine stp_str rfl rfl (l := L3) (l2 := x.wait) rfl rfl (by exact hs3) (by exact RW.out.touch F9 (fun _ _ _ h => h)) (by omega) ?_
             intro A4 c4 L4 w10 hL4 hs4 ht4 hA4
             have F10 : Fresh wr w10 := Touch.trans F9 ht4 (fun y hy e => by cases A3 with | none => cases e | some ad => have := A3b ad rfl; simp at e; omega)
             have A4b : ∀ ad, A4 = some ad → wr.heap.size ≤ ad.block := fun ad e => by
               subst e
               have h9 := F9.size
               rcases hA4 with e | e
               · cases A3 with
                 | none => cases e
                 | some ad' => have := A3b ad' rfl; simp at e; omega
               · simp at e; omega))
        all_goals
          have HM4 : Hid (Mine strE wr w10 A4 c4 L4) := ⟨hs4, F10, A4b⟩
          have HL4 : Hid (L4 = x.kept ++ x.wait) := by unfold Hid; rw [hL4.out, hL3.out]; rfl
          go_wp2
          go_meet
          case rel => exact ⟨A4, c4, L4, rfl, HL4, HM4⟩
      case rest =>
        obtain ⟨A4, c4, L4, rfl, HL4, HM4⟩ := hcut
        have BC := Lib.hid (HM4.out.fresh.blk B3.out (fun h => h))
        have F4 : Hid (Fresh w wc) := F3.out.trans HM4.out.fresh (fun _ _ h => h)
        have hzi : (((x.kept ++ x.wait).length : Int) == 0) = (decide (x.wait.length = 0) && decide (x.kept.length = 0)) := by
          rw [Bool.eq_iff_iff, beq_iff_eq, Bool.and_eq_true, decide_eq_true_eq, decide_eq_true_eq, List.length_append]
          omega
        have hLE := HLE.out wc F4.out
        have hL4 := HL4.out
        subst hL4
        have SL4w : Hid (Sl strE wc A4 c4 (x.kept ++ x.wait)) := HM4.out.sl
        clear HM4 HL4 HLE HQ HIN B3 RK RW HBd k8 k9 b8 b9 F3
        generalize x.kept ++ x.wait = L at *
        have HLE2 := Lib.hid hLE
        clear hLE
        generalize (decide (x.wait.length = 0) && decide (x.kept.length = 0)) = zi at *
        go_wp2_with fail
        refine HLE2.out.mono ?_
        rintro e w5 ⟨B5, d5, rfl, m5⟩
        have B5b := Lib.hid (m5.fresh.blk BC.out (fun h => h))
        have F5 : Hid (Fresh w w5) := F4.out.trans m5.fresh (fun _ _ h => h)
        have SL4 : Hid (Sl strE w5 A4 c4 L) := SL4w.out.touch m5.fresh (fun _ _ h => h)
        have M5 := Lib.hid m5
        have HIDQ := Lib.hid (HID.out w5 F5.out)
        have HLAQ := Lib.hid (HLA.out w5 F5.out)
        have HDUQ := Lib.hid (HDU.out w5 F5.out)
        have hls := m5.sl.1
        have hlm := m5.sl.2.1
        have hls4 := SL4w.out.1
        have hlm4 := SL4w.out.2.1
        unfold maxLen at hlm hlm4
        clear m5 BC F4 SL4w HLE2 HID HLA HDU
        have bs0 : w5.cell? ⟨w.heap.size, 0, none⟩ = some (.int .i64 x.s) := B5b.out.cell 0
        have bs2 : w5.cell? ⟨w.heap.size, 2, none⟩ = some (.int .i64 x.ms) := B5b.out.cell 2
        have bs5 : w5.cell? ⟨w.heap.size, 5, none⟩ = some (.int .i64 x.units) := B5b.out.cell 5
        have bs6 : w5.cell? ⟨w.heap.size, 6, none⟩ = some (.int .i64 x.polls) := B5b.out.cell 6
        have bs8 : w5.cell? ⟨w.heap.size, 8, none⟩ = some (.slice P.W x.wait.length P.cw) := B5b.out.cell 8
        simp only
        generalize hzd : decide (x.polls ≤ x.units) = zd at *
        by_cases hw : 0 < x.wait.length
        · have hwi : decide ((0 : Int) < (x.wait.length : Int)) = true := decide_eq_true (by omega)
          have hwi2 : (0 : Int) < (x.wait.length : Int) := by omega
          rw [decide_eq_true hw, Bool.true_and] at HLAQ
          generalize hzs : (x.s == x.ms) = zs at *
          go_wp2_with fail
          go_quiet ((first
            | (go_at_call 28; with_reducible exact HIDQ.out _)
            | (go_at_call 27; with_reducible exact HLAQ.out _)
            | (go_at_call 39; with_reducible exact HDUQ.out _)))
          have F6 : Hid (Fresh w (w5.drewN nq)) := F5.out.drewN nq
          have S4 : Hid (Sl strE (w5.drewN nq) A4 c4 L) := SL4.out
          have S5 : Hid (Sl strE (w5.drewN nq) B5 d5 L) := M5.out.sl
          clear SL4 M5 F5 HIDQ HLAQ HDUQ B5b bs0 bs2 bs5 bs6 bs8
          generalize w5.drewN nq = w6 at *
          go_wp2_with fail
          go_loopw [158] (fun s158 wx => ∃ k : Nat, k ≤ L.length ∧ s158 = .int .i64 k ∧ wx = w6) (fun s158 _ => L.length - (intOf s158).toNat)
          case atStart => exact ⟨0, by omega, rfl, rfl⟩
          case round =>
            obtain ⟨k, hk, rfl, rfl⟩ := hrel
            by_cases hlt : k < L.length
            · have hk1 : (k : Int) < (L.length : Int) := by omega
              have hk0 : (0 : Int) ≤ (k : Int) := by omega
              obtain ⟨g, o, hge, _, c0⟩ := S4.out.str_at k hlt
              obtain ⟨g', o', hge', _, c0'⟩ := S5.out.str_at k hlt
              generalize L.getD k ByteArray.empty = v at *
              have hvv : (v.toList == v.toList) = true := str_eq rfl
              rw [hge, hge']
              clear hge hge'
              go_wp2
              go_roundw
              case rel => exact ⟨k + 1, hlt, by go_num, by first | rfl | trivial⟩
              case measure => simp [intOf]; omega
            · obtain rfl : k = L.length := by omega
              have hk1 : ¬ ((L.length : Nat) : Int) < (L.length : Int) := by omega
              go_wp2
              go_ret
              exact ⟨rfl, F6.out⟩
        · have hwi : decide ((0 : Int) < (x.wait.length : Int)) = false := decide_eq_false (by omega)
          have hwi2 : ¬ (0 : Int) < (x.wait.length : Int) := by omega
          rw [decide_eq_false hw, Bool.false_and] at HLAQ
          go_wp2_with fail
          go_quiet ((first
            | (go_at_call 28; with_reducible exact HIDQ.out _)
            | (go_at_call 27; with_reducible exact HLAQ.out _)
            | (go_at_call 39; with_reducible exact HDUQ.out _)))
          have F6 : Hid (Fresh w (w5.drewN nq)) := F5.out.drewN nq
          have S4 : Hid (Sl strE (w5.drewN nq) A4 c4 L) := SL4.out
          have S5 : Hid (Sl strE (w5.drewN nq) B5 d5 L) := M5.out.sl
          clear SL4 M5 F5 HIDQ HLAQ HDUQ B5b bs0 bs2 bs5 bs6 bs8
          generalize w5.drewN nq = w6 at *
          go_wp2_with fail
          go_loopw [158] (fun s158 wx => ∃ k : Nat, k ≤ L.length ∧ s158 = .int .i64 k ∧ wx = w6) (fun s158 _ => L.length - (intOf s158).toNat)
          case atStart => exact ⟨0, by omega, rfl, rfl⟩
          case round =>
            obtain ⟨k, hk, rfl, rfl⟩ := hrel
            by_cases hlt : k < L.length
            · have hk1 : (k : Int) < (L.length : Int) := by omega
              have hk0 : (0 : Int) ≤ (k : Int) := by omega
              obtain ⟨g, o, hge, _, c0⟩ := S4.out.str_at k hlt
              obtain ⟨g', o', hge', _, c0'⟩ := S5.out.str_at k hlt
              generalize L.getD k ByteArray.empty = v at *
              have hvv : (v.toList == v.toList) = true := str_eq rfl
              rw [hge, hge']
              clear hge hge'
              go_wp2
              go_roundw
              case rel => exact ⟨k + 1, hlt, by go_num, by first | rfl | trivial⟩
              case measure => simp [intOf]; omega
            · obtain rfl : k = L.length := by omega
              have hk1 : ¬ ((L.length : Nat) : Int) < (L.length : Int) := by omega
              go_wp2
              go_ret
              exact ⟨rfl, F6.out⟩
end Go.Proofs.YtajdnllkkekmnaaGreat

namespace Go.Proofs.YtajdnllkkekmnaaGreat
open Go.RowKit

set_option maxHeartbeats 1000000 in
/-- Nothing goes again, there is credit, nothing waits: nothing goes out. -/
theorem snext_void (p : Nat) (F : Nat → Prop) (st : Sd.S) (w : World) (h : SendAt w p F st) (ha : st.again = []) (hs : st.s ≠ st.ms) (hq : st.q = []) :
    Calls Tryz.prog 23 #[.pointer (some ⟨p, 0, none⟩)] w fun e w' => e = .returned (.tuple #[.int .u32 0, .string ByteArray.empty, .bool false, .bool false]) ∧ SendAt w' p F st ∧ Touch F w w' := by
  obtain ⟨g, b, k, A, c, h1, hF⟩ := h.open_
  have c0 : w.cell? ⟨p, 0, none⟩ = some (.int .u32 st.s) := h1.blk.cell 0
  have c2 : w.cell? ⟨p, 2, none⟩ = some (.int .u32 st.ms) := h1.blk.cell 2
  have c7 : w.cell? ⟨p, 7, none⟩ = some (.pointer (some ⟨g, 0, none⟩)) := h1.blk.cell 7
  have c9 : w.cell? ⟨p, 9, none⟩ = some (.slice A st.again.length c) := h1.blk.cell 9
  rw [ha, List.length_nil] at c9
  have hb : (st.s == st.ms) = false := by simpa using hs
  have HR := Lib.hid (fun n => ringStr_take g b st.most st.q (w.drewN n) (h1.ring.same rfl))
  have HQ : Hid ({ st with q := [] } = st) := by unfold Hid; rw [← hq]
  rw [hq] at HR
  have HI := Lib.hid h1
  have HF := Lib.hid hF
  clear h h1 hF ha hs hq
  obtain ⟨s, hse⟩ : ∃ s, s = st.s := ⟨_, rfl⟩
  obtain ⟨ms, hme⟩ : ∃ s, s = st.ms := ⟨_, rfl⟩
  rw [← hse] at c0 hb
  rw [← hme] at c2 hb
  clear hse hme
  go_enter Tryz.func23, Tryz.ntmps23
  go_wp2
  go_quiet (fail)
  go_wp2_with fail
  refine (HR.out _).mono ?_
  rintro e w1 ⟨rfl, hr, ht⟩
  have I1 : Hid (SendIn w1 p g b k A c { st with q := [] }) := (HI.out.drewN _).ringed hr ht
  have T1 : Hid (Touch F w w1) := ((Touch.refl _ _).drewN _).trans ht (fun x _ hx => HF.out.foot x hx)
  have HX : Hid (SendAt w1 p F st) := by
    have := SendAt.mk' I1.out HF.out
    rw [HQ.out] at this
    exact this
  clear hr ht HR HI c0 c2 c7 c9
  simp only [List.length_nil, if_true]
  go_wp2
  exact bodyPost_ret (results_tmp4 rfl _ _ _) rfl ⟨rfl, HX.out, T1.out⟩

theorem snextP_any (p : Nat) (F : Nat → Prop) (x : Sf.S) (lo hi : Int) (hok : Sf.Ok x lo hi) (w : World) (h : SendAt w p F (Sf.prog x)) :
    Calls Tryz.prog 23 #[.pointer (some ⟨p, 0, none⟩)] w fun e w' => e = .returned (.tuple #[.int .u32 ((Sf.next x).2.1 % 16777216), .string (Sf.next x).2.2.1, .bool (Sf.next x).2.2.2.1, .bool (Sf.next x).2.2.2.2]) ∧ SendAt w' p (Grown F w) (Sf.prog (Sf.next x).1) ∧ Touch F w w' := by
  have hu : 0 ≤ (Sf.prog x).units ∧ (Sf.prog x).units < 4611686018427387904 := by
    show 0 ≤ x.units ∧ x.units < _
    have := hok.units
    have := hok.hl
    omega
  unfold Sf.next
  match ha : x.again with
  | n :: r =>
    have hb := hok.ags n (by rw [ha]; simp)
    have hpa : (Sf.prog x).again = n % 16777216 :: Sf.pa r := by show Sf.pa x.again = _; rw [ha]; rfl
    refine (snext_again p F (Sf.prog x) (n % 16777216) (Sf.pa r) _ _ w h hpa (hok.look hb.1 hb.2) hu).mono ?_
    rintro e w' ⟨rfl, h1, h2⟩
    rw [hok.prog_repeat1 ha] at h1
    exact ⟨rfl, h1.mono (fun _ h => .inl h), h2⟩
  | [] =>
    have hpa : (Sf.prog x).again = [] := by show Sf.pa x.again = _; rw [ha]; rfl
    have hsm := hok.sms
    have hma := hok.msa
    have hkl := hok.klen
    have hne : ¬ x.ms ≤ x.s → (Sf.prog x).s ≠ (Sf.prog x).ms := fun hc => by
      show x.s % 16777216 ≠ x.ms % 16777216
      omega
    have stopped : ∀ r : Sf.S × Int × ByteArray × Bool × Bool, r = (x, 0, "".toUTF8, false, false) → (x.ms ≤ x.s ∨ x.wait = []) → Calls Tryz.prog 23 #[.pointer (some ⟨p, 0, none⟩)] w fun e w' => e = .returned (.tuple #[.int .u32 (r.2.1 % 16777216), .string r.2.2.1, .bool r.2.2.2.1, .bool r.2.2.2.2]) ∧ SendAt w' p (Grown F w) (Sf.prog r.1) ∧ Touch F w w' := fun r hr hc => by
      subst hr
      by_cases h1 : x.ms ≤ x.s
      · have h2 : (Sf.prog x).s = (Sf.prog x).ms := by show x.s % 16777216 = x.ms % 16777216; rw [show x.s = x.ms by omega]
        refine (snext_stop p F (Sf.prog x) w h hpa h2).mono ?_
        rintro e w' ⟨rfl, h1, h2⟩
        exact ⟨rfl, h1.mono (fun _ h => .inl h), h2⟩
      · have hq : (Sf.prog x).q = [] := hc.resolve_left h1
        refine (snext_void p F (Sf.prog x) w h hpa (hne h1) hq).mono ?_
        rintro e w' ⟨rfl, h1, h2⟩
        exact ⟨rfl, h1.mono (fun _ h => .inl h), h2⟩
    match hw : x.wait with
    | [] => exact stopped _ rfl (.inr hw)
    | v :: r =>
      by_cases hc : x.ms ≤ x.s
      · simp only [if_pos hc]
        exact stopped _ rfl (.inl hc)
      · simp only [if_neg hc]
        refine (snext_new p F (Sf.prog x) v r w h hpa (hne hc) hw hu).mono ?_
        rintro e w' ⟨rfl, h1, h2⟩
        rw [hok.prog_fresh1 v r] at h1
        exact ⟨rfl, h1.mono (fun _ h => .inl h), h2⟩

/-- The document's Next. -/
theorem sfnext_any (P : SfP) (D : Nat → Prop) (x : Sf.S) (lo hi : Int) (w : World) (h : SfIn w P x) (hd : SfD P D) (hD : ∀ k, D k → k < w.heap.size) (hok : Sf.Ok x lo hi) :
    Calls Tryz.prog 33 #[sfV x P] w fun e w' => ∃ V, e = .returned (.tuple #[V, .int .i64 (Sf.next x).2.1, .string (Sf.next x).2.2.1, .bool (Sf.next x).2.2.2.1, .bool (Sf.next x).2.2.2.2]) ∧ SfOut w D (Sf.next x).1 V w' := by
  unfold Sf.next
  match ha : x.again with
  | n :: r => exact sfnext_again P D x n r w h hd hD hok ha
  | [] =>
    match hw : x.wait with
    | [] => exact sfnext_stop P D x w h hd hD ha (.inl hw)
    | v :: r =>
      by_cases hc : x.ms ≤ x.s
      · simp only [if_pos hc]
        exact sfnext_stop P D x w h hd hD ha (.inr hc)
      · simp only [if_neg hc]
        exact sfnext_new P D x v r w h hd hD hok ha hw (by omega)
end Go.Proofs.YtajdnllkkekmnaaGreat

namespace Go.Proofs.YtajdnllkkekmnaaGreat
open Go.RowKit

/-- A sender of the program's and one of the document's, apart from one another. -/
structure St11 (w : World) (p : Nat) (F D : Nat → Prop) (P : SfP) (x : Sf.S) (lo hi : Int) : Prop where
  send : SendAt w p F (Sf.prog x)
  lim : ∀ k, F k → k < w.heap.size
  ins : SfIn w P x
  dom : SfD P D
  dlim : ∀ k, D k → k < w.heap.size
  off : ∀ k, F k → ¬ D k
  ok : Sf.Ok x lo hi
/-- What a call of Step leaves. -/
def StepPost (w : World) (p : Nat) (F D : Nat → Prop) (y : Sf.S) (lo hi : Int) (e : Ending) (w' : World) : Prop :=
  ∃ P' F' D', e = .returned (.tuple #[sfV y P', .bool true]) ∧ St11 w' p F' D' P' y lo hi ∧ Touch F w w' ∧ (∀ k, F' k → F k ∨ w.heap.size ≤ k) ∧ ∀ k, D' k → D k ∨ w.heap.size ≤ k
/-- From a to b. -/
def Within (D : Nat → Prop) (a b : Nat) (k : Nat) : Prop := D k ∨ (a ≤ k ∧ k < b)

section
variable {w W W' : World} {p : Nat} {F D : Nat → Prop} {P P' : SfP} {x y : Sf.S} {lo hi hi' : Int} {a1 b1 a2 b2 : Nat}
theorem St11.done (h : St11 w p F D P x lo hi) (h1 : SendAt W p (Within F a1 b1) (Sf.prog y)) (h2 : SfIn W P' y) (h3 : SfD P' (Within D a2 b2)) (hT : Touch F w W) (hok : Sf.Ok y lo hi') (hd : b1 ≤ a2 ∨ b2 ≤ a1) (ha1 : w.heap.size ≤ a1) (ha2 : w.heap.size ≤ a2) (hb1 : b1 ≤ W.heap.size) (hb2 : b2 ≤ W.heap.size) :
    StepPost w p F D y lo hi' (.returned (.tuple #[sfV y P', .bool true])) W := by
  have hs := hT.size
  refine ⟨P', Within F a1 b1, Within D a2 b2, rfl, ⟨h1, fun k hk => ?_, h2, h3, fun k hk => ?_, fun k hk hk2 => ?_, hok⟩, hT, fun k hk => ?_, fun k hk => ?_⟩
  · rcases hk with hk | hk
    · have := h.lim k hk; omega
    · omega
  · rcases hk with hk | hk
    · have := h.dlim k hk; omega
    · omega
  · rcases hk with hk | hk
    · rcases hk2 with hk2 | hk2
      · exact h.off k hk hk2
      · have := h.lim k hk; omega
    · rcases hk2 with hk2 | hk2
      · have := h.dlim k hk2; omega
      · omega
  · rcases hk with hk | hk
    · exact .inl hk
    · exact .inr (by omega)
  · rcases hk with hk | hk
    · exact .inl hk
    · exact .inr (by omega)
theorem SendAt.within (h : SendAt W' p (Grown F W) (Sf.prog y)) : SendAt W' p (Within F W.heap.size W'.heap.size) (Sf.prog y) :=
  h.cut.mono fun k hk => by
    rcases hk with ⟨hk | hk, hk2⟩
    · exact .inl hk
    · exact .inr ⟨hk, hk2⟩
theorem SfOut.open_ {v : Value} (h : SfOut W D y v W') : ∃ P', v = sfV y P' ∧ SfIn W' P' y ∧ SfD P' (Within D W.heap.size W'.heap.size) ∧ Fresh W W' := by
  obtain ⟨D', ⟨P', e, h1, h2, h3⟩, hf, hd⟩ := h
  exact ⟨P', e, h1, h2.mono fun k hk => (hd k hk).elim .inl fun h => .inr ⟨h, h3 k hk⟩, hf⟩
theorem SendAt.away {F : Nat → Prop} {st : Sd.S} {T : Nat → Prop} (h : SendAt W p F st) (ht : Touch T W W') (hT : ∀ k, T k → ¬ F k) : SendAt W' p F st := h.touch ht fun k hk _ hT' => hT k hT' hk

/-- The boxes of a call of Step: the document's sender, the act, the result. -/
structure StBox (w wr : World) (P : SfP) (x : Sf.S) (a : Act11) (A : Option Addr) (c : Nat) : Prop where
  sf : Blk wr w.heap.size 33 (sfCells x P)
  act : Blk wr (w.heap.size + 1) 38 (act11C a A c)
  res : Blk wr (w.heap.size + 1 + 1) 33 sfZero
theorem StBox.touch {wr wr' : World} {a : Act11} {A : Option Addr} {c : Nat} {T : Nat → Prop} (h : StBox w wr P x a A c) (ht : Touch T wr wr') (hT : ∀ k, T k → k < w.heap.size ∨ w.heap.size + 1 + 1 < k) : StBox w wr' P x a A c :=
  ⟨ht.blk h.sf (fun e => by have := hT _ e; omega), ht.blk h.act (fun e => by have := hT _ e; omega), ht.blk h.res (fun e => by have := hT _ e; omega)⟩
theorem StBox.old {wr wr' : World} {a : Act11} {A : Option Addr} {c : Nat} (h : StBox w wr P x a A c) (ht : Fresh wr wr') : StBox w wr' P x a A c := h.touch ht fun _ h => h.elim
theorem Blk.new1 (w : World) (o : Obj) (t : TypeId) (cs : List Value) : Blk ((w.alloc o).alloc (.cells cs.toArray t)) (w.heap.size + 1) t cs := by
  have := Blk.new (w.alloc o) t cs
  rwa [show (w.alloc o).heap.size = w.heap.size + 1 by simp] at this
theorem StBox.new (w : World) (P : SfP) (x : Sf.S) (a : Act11) (A : Option Addr) (c : Nat) : StBox w (((w.alloc (.cells (sfCells x P).toArray 33)).alloc (.cells (act11C a A c).toArray 38)).alloc (.cells sfZero.toArray 33)) P x a A c := by
  refine ⟨((Blk.new w _ (sfCells x P)).alloc _).alloc _, (Blk.new1 w _ _ (act11C a A c)).alloc _, ?_⟩
  have := Blk.new1 (w.alloc (.cells (sfCells x P).toArray 33)) (.cells (act11C a A c).toArray 38) 33 sfZero
  rw [show ∀ o, (w.alloc o).heap.size = w.heap.size + 1 from fun o => by simp] at this
  exact this
end
theorem numL_bd (x : Sf.S) (a : Act11) : ∀ n ∈ Sf.numL x a, 0 ≤ n ∧ n < 16777216 := fun n hn => by
  unfold Sf.numL at hn
  obtain ⟨y, _, rfl⟩ := List.mem_map.1 hn
  exact near11_bd a _ y
theorem numL_low (x : Sf.S) (a : Act11) : (Sf.numL x a).map (fun n => n % 16777216) = Sf.numL x a := by
  have : ∀ n ∈ Sf.numL x a, (fun n : Int => n % 16777216) n = id n := fun n hn => by
    have := numL_bd x a n hn
    simp only [id]
    omega
  rw [List.map_congr_left this, List.map_id]
theorem numL_len (x : Sf.S) (a : Act11) : (Sf.numL x a).length ≤ 12 := by
  unfold Sf.numL
  simp
  omega
end Go.Proofs.YtajdnllkkekmnaaGreat

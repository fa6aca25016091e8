/-
  polliwoglaw03.Few: few spans, near nought, and their numbers.
-/
import Derived.Test.YtlfapnapkdnldaaRef03b
import Derived.Test.YtlfapnapkdnldaaSpanE
import Derived.Deep.RegionHeld3
import Derived.Deep.DeepCutAuto
namespace Go.Proofs.Ytlfapnapkdnldaa
open Go.RowKit

namespace Sp
def c100 (x : Int) : Int := max (-100) (min x 100)
def few1 (a : Int × Int) : Int × Int := (c100 a.1, min (c100 a.2) (c100 a.1 + 40))
theorem few1_bd (a : Int × Int) : -100 ≤ (few1 a).1 ∧ (few1 a).1 ≤ 100 ∧ -100 ≤ (few1 a).2 ∧ (few1 a).2 ≤ 100 ∧ (few1 a).2 ≤ (few1 a).1 + 40 := by
  unfold few1 c100
  simp only
  omega
def few (l : List (Int × Int)) (k : Nat) : List (Int × Int) := (l.take k).map few1
theorem put_len (l : List Int) (x : Int) : (put l x).length ≤ l.length + 1 := by
  unfold put
  split
  · omega
  · rw [insTo_all]
    split
    · exact insTo_len l x _
    · rename_i h
      unfold insTo
      rw [if_neg h]
      simp
theorem few_succ (l : List (Int × Int)) (k : Nat) (hk : k < l.length) : few l (k + 1) = few l k ++ [few1 (l.getD k (0, 0))] := by
  unfold few
  rw [List.take_succ_eq_append_getElem hk, List.map_append]
  simp [List.getD, List.getElem?_eq_getElem hk]
end Sp

set_option maxHeartbeats 4000000 in
theorem few_any (A : Option Addr) (c : Nat) (l : List (Int × Int)) (w : World) (h : Rd spanE w A c l) :
    Calls Try.prog 15 #[.slice A l.length c] w fun e w' => ∃ B d D f all, e = .returned (.tuple #[.slice B (Sp.few l 12).length d, .slice D all.length f]) ∧ Mine spanE w w' B d (Sp.few l 12) ∧ Mine intE w w' D f all ∧ Sp.Rising all ∧ (∀ n, n ∈ all ↔ Sp.mem (Sp.few l 12) n) ∧ all.length ≤ 480 := by
  have hlc := h.1
  have hcm := h.2.1
  unfold maxLen at hcm
  have H := Lib.hid h
  clear h
  go_enter Try.func15, Try.ntmps15
  go_wp2_with fail
  go_loopw [4, 5, 6] (fun s4 s5 i wr => ∃ (k : Nat) (B D : Option Addr) (d f : Nat) (S : List (Int × Int)) (N : List Int), k ≤ 12 ∧ k ≤ l.length ∧ i = .int .i64 k ∧ s4 = .slice B S.length d ∧ s5 = .slice D N.length f ∧ Hid (S = Sp.few l k) ∧ Hid (Mine spanE w wr B d S) ∧ Hid (Mine intE w wr D f N) ∧ Hid (Sp.Rising N ∧ ∀ n, n ∈ N ↔ Sp.mem S n) ∧ N.length ≤ 40 * k) (fun _ _ i _ => 12 - (intOf i).toNat)
  case atStart => exact ⟨0, none, none, 0, 0, [], [], by omega, by omega, rfl, rfl, rfl, rfl, Mine.nil _ _, Mine.nil _ _, ⟨List.Pairwise.nil, fun n => by simp [Sp.mem_nil]⟩, by simp⟩
  case round =>
    obtain ⟨k, B, D, d, f, S, N, hk12, hkL, rfl, rfl, rfl, HS, HMB, HMD, HN, hNl⟩ := hrel
    rcases (show (k < l.length ∧ k < 12) ∨ ¬ ((k : Int) < (l.length : Int)) ∨ ((k : Int) < (l.length : Int) ∧ ¬ ((k : Int) < 12)) by omega) with ⟨hkl, hk2⟩ | hend
    · have hk1 : (k : Int) < (l.length : Int) := by omega
      have hk2 : (k : Int) < 12 := by omega
      have hd1 : decide ((k : Int) < (l.length : Int)) = true := decide_eq_true hk1
      have hd2 : decide ((k : Int) < 12) = true := decide_eq_true hk2
      have hk0 : (0 : Int) ≤ (k : Int) := by omega
      obtain ⟨g, o, rfl, _, c0, c1⟩ := (HMB.out.keepsR H.out).span_at k hkl
      have HFS := Lib.hid (Sp.few_succ l k hkl)
      have HC : Hid (∀ w', Fresh w w' → w'.cell? ⟨g, o + k * 2, none⟩ = some (.int .i64 (l.getD k (0, 0)).1) ∧ w'.cell? ⟨g, o + k * 2 + 1, none⟩ = some (.int .i64 (l.getD k (0, 0)).2)) := fun w' ht => by
        obtain ⟨g2, o2, e, _, h1, h2⟩ := (H.out.touch ht (fun _ _ _ h => h)).span_at k hkl
        injection e with e
        injection e with e1 e2
        subst e1 e2
        exact ⟨h1, h2⟩
      obtain ⟨a, ha⟩ : ∃ a, a = l.getD k (0, 0) := ⟨_, rfl⟩
      rw [← ha] at c0 c1 HFS HC
      obtain ⟨x, y⟩ := a
      obtain ⟨x0, hx0⟩ : ∃ x0 : Int, (if 100 < x then (100 : Int) else x) = x0 := ⟨_, rfl⟩
      obtain ⟨F, hF⟩ : ∃ F : Int, (if -100 < x0 then x0 else -100) = F := ⟨_, rfl⟩
      obtain ⟨y0, hy0⟩ : ∃ y0 : Int, (if 100 < y then (100 : Int) else y) = y0 := ⟨_, rfl⟩
      obtain ⟨G, hG⟩ : ∃ G : Int, (if -100 < y0 then y0 else -100) = G := ⟨_, rfl⟩
      obtain ⟨T, hT⟩ : ∃ T : Int, (if F + 40 < G then F + 40 else G) = T := ⟨_, rfl⟩
      have hFe : F = Sp.c100 x := by unfold Sp.c100; rw [← hF, ← hx0]; split <;> split <;> omega
      have hGe : G = Sp.c100 y := by unfold Sp.c100; rw [← hG, ← hy0]; split <;> split <;> omega
      have hTe : (F, T) = Sp.few1 (x, y) := by
        unfold Sp.few1
        rw [← hFe, ← hGe, ← hT]
        congr 1
        split <;> omega
      have hbd := Sp.few1_bd (x, y)
      rw [← hTe] at hbd HFS
      simp only at hbd
      have hFb : -100 ≤ F ∧ F ≤ 100 := by omega
      clear hFe hGe hTe ha
      go_upto_region 6 with (fail)
      simp only at c0 c1
      go_cut [7] (fun v wx => v = .pointer (some ⟨wr.heap.size, 0, none⟩) ∧ wx = (wr.alloc (.cells #[.int .i64 F, .int .i64 G] 45)).drew)
      case first =>
        go_region_held3 (fun wx => wx.cell? ⟨g, o + k * 2, none⟩ = some (.int .i64 x) ∧ wx.cell? ⟨g, o + k * 2 + 1, none⟩ = some (.int .i64 y))
          (first
            | exact ⟨c0, c1⟩
            | exact HC.out _ ((HMB.out.fresh.alloc _).drew)
            | exact HC.out _ (((HMB.out.fresh.alloc _).setCell (fun e => by have := HMB.out.fresh.size; simp at e; omega) _).setCell (fun e => by have := HMB.out.fresh.size; simp at e; omega) _)
            | exact HC.out _ ((((HMB.out.fresh.alloc _).setCell (fun e => by have := HMB.out.fresh.size; simp at e; omega) _).setCell (fun e => by have := HMB.out.fresh.size; simp at e; omega) _).drew)
            | exact HC.out _ (((HMB.out.fresh.alloc _).drew.setCell (fun e => by have := HMB.out.fresh.size; simp at e; omega) _).setCell (fun e => by have := HMB.out.fresh.size; simp at e; omega) _)
            | exact HC.out _ (HMB.out.fresh.alloc _)
            | exact HC.out _ ((HMB.out.fresh.drew.alloc _)))
          (fail)
        all_goals
          go_wp2
          go_meet
          case rel => exact ⟨rfl, rfl⟩
      case rest =>
        obtain ⟨rfl, hwc⟩ := hcut
        have T1 : Hid (Fresh wr wc) := by rw [hwc]; exact ((Touch.refl _ wr).alloc _).drew
        have B1 : Hid (Blk wc wr.heap.size 45 [.int .i64 F, .int .i64 G]) := by rw [hwc]; exact (Blk.new wr _ _).drew
        have b0 : wc.cell? ⟨wr.heap.size, 0, none⟩ = some (.int .i64 F) := B1.out.cell 0
        have b1 : wc.cell? ⟨wr.heap.size, 1, none⟩ = some (.int .i64 G) := B1.out.cell 1
        have bf := B1.out.frozen 1
        clear c0 c1 HC hx0 hF hy0 hG hwc
        have T2 : Hid (Fresh wr ((wc.setCell ⟨wr.heap.size, 1, none⟩ (.int .i64 T)).alloc (.cells #[.int .i64 F, .int .i64 T] 45))) := (T1.out.setCell (fun e => absurd e (Nat.lt_irrefl _)) _).alloc _
        have B2 : Hid (Blk (wc.setCell ⟨wr.heap.size, 1, none⟩ (.int .i64 T)) wr.heap.size 45 [.int .i64 F, .int .i64 T]) := B1.out.set 1 _
        have M2 := Lib.hid (HMB.out.old T2.out)
        have D2 := Lib.hid (HMD.out.old T2.out)
        have HBn : Hid (∀ ad, B = some ad → ad.block < wr.heap.size) := HMB.out.sl.lt
        have HBD : Hid (∀ ad ad', B = some ad → D = some ad' → ad.block ≠ ad'.block) := fun ad ad' e e' => by
          obtain ⟨_, cs, hb, _⟩ := HMD.out.sl.2.2.2 ad' e'
          exact HMB.out.sl.blk_ne hb (by decide) ad e
        have hSl : S.length ≤ 12 := by rw [HS.out]; unfold Sp.few; simp; omega
        have B3 := Lib.hid (B2.out.alloc (.cells #[.int .i64 F, .int .i64 T] 45))
        have R2 : Hid (Rd spanE ((wc.setCell ⟨wr.heap.size, 1, none⟩ (.int .i64 T)).alloc (.cells #[.int .i64 F, .int .i64 T] 45)) (some ⟨wc.heap.size, 0, none⟩) 1 [(F, T)]) := by
          have h := Sl.rd (Sl.lit spanE (wc.setCell ⟨wr.heap.size, 1, none⟩ (.int .i64 T)) _ rfl #[.int .i64 F, .int .i64 T] [(F, T)] rfl 1 rfl (by decide))
          rwa [show (wc.setCell ⟨wr.heap.size, 1, none⟩ (.int .i64 T)).heap.size = wc.heap.size by simp [go_sem]] at h
        clear HMB HMD T1 T2 B1 B2
        go_wp2_with (at_builtin; refine app_span Try.underlying23 rfl rfl (l := S) (l2 := [(F, T)]) rfl rfl M2.out.sl R2.out (by simp; omega) ?_; intro B4 d4 S4 w4 hS4 hs4 ht4 hB4; have B5 : Hid (Blk w4 wr.heap.size 45 [.int .i64 F, .int .i64 T]) := ht4.blk B3.out (fun e => by obtain ⟨ad, h1, h2⟩ := Option.map_eq_some_iff.1 e; have := HBn.out ad h1; omega); have M5 := Lib.hid (M2.out.app hs4 ht4 hB4); clear b0 b1 bf; have D5 : Hid (Mine intE w w4 D f N) := ⟨D2.out.sl.touch ht4 (fun ad e e' => by obtain ⟨ad2, h1, h2⟩ := Option.map_eq_some_iff.1 e'; exact HBD.out ad2 ad h1 e h2), M5.out.fresh, D2.out.base⟩; have b0 : w4.cell? ⟨wr.heap.size, 0, none⟩ = some (.int .i64 F) := B5.out.cell 0; have b1 : w4.cell? ⟨wr.heap.size, 1, none⟩ = some (.int .i64 T) := B5.out.cell 1)
        have F4 : Hid (Fresh w4 w4) := Touch.refl _ _
        have HS5 : Hid (S4 = Sp.few l (k + 1)) := by unfold Hid; rw [hS4.out, HFS.out, HS.out]
        have HM4 : Hid (∀ m, Sp.mem S4 m ↔ Sp.mem S m ∨ (F ≤ m ∧ m < T)) := fun m => by
          rw [hS4.out, Sp.mem_append, Sp.mem_cons]
          simp [Sp.mem_nil]
        have hS4l : S4.length ≤ 12 := by rw [HS5.out]; unfold Sp.few; simp; omega
        clear hs4 ht4 hB4 hS4 M2 D2 B3 R2 HBn HBD HFS
        go_wp2_with fail
        go_loopw [5, 8] (fun s5 n wx => ∃ (j : Int) (D : Option Addr) (f : Nat) (N : List Int), F ≤ j ∧ (j ≤ T ∨ j = F) ∧ n = .int .i64 j ∧ s5 = .slice D N.length f ∧ Hid (Mine intE w wx D f N) ∧ Hid (Sp.Rising N ∧ ∀ m, m ∈ N ↔ Sp.mem S m ∨ (F ≤ m ∧ m < j)) ∧ (N.length : Int) ≤ 40 * k + (j - F) ∧ Hid (Fresh w4 wx)) (fun _ n _ => (T - intOf n).toNat)
        case atStart => exact ⟨F, D, f, N, by omega, .inr rfl, rfl, rfl, D5, ⟨HN.out.1, fun m => (HN.out.2 m).trans ⟨.inl, fun h => h.elim id (fun h => by omega)⟩⟩, by omega, F4⟩
        case round =>
          clear D5 F4 HN b0 b1
          obtain ⟨j, D2, f2, N2, hFj, hjT, rfl, rfl, HD, HN, hNl2, HF⟩ := hrel
          have B6 := Lib.hid (HF.out.blk B5.out (fun h => h))
          have b1 := B6.out.cell 1
          simp only [List.getElem?_cons_succ, List.getElem?_cons_zero] at b1
          by_cases hj : j < T
          · have hbig : N2.length ≤ 1000000 := by omega
            go_wp2_with fail
            refine (put03_any _ _ _ j _ HD.out.sl hbig).mono ?_
            rintro e w6 ⟨D6, f6, rfl, hs6, hf6, hor⟩
            have M6 : Hid (Mine intE w w6 D6 f6 (Sp.put N2 j)) := ⟨hs6, HD.out.fresh.trans hf6 (fun _ _ h => h), fun ad e => by
              rcases hor with ⟨e1, _⟩ | h
              · exact HD.out.base ad (e1 ▸ e)
              · exact Nat.le_trans HD.out.fresh.size (h ad e)⟩
            have F6 : Hid (Fresh w4 w6) := HF.out.trans hf6 (fun _ _ h => h)
            have N6 : Hid (Sp.Rising (Sp.put N2 j) ∧ ∀ m, m ∈ Sp.put N2 j ↔ Sp.mem S m ∨ (F ≤ m ∧ m < j + 1)) := ⟨Sp.put_rising _ _ HN.out.1, fun m => by
              rw [Sp.mem_put, HN.out.2]
              constructor
              · rintro (h | h | h)
                · exact .inr (by omega)
                · exact .inl h
                · exact .inr (by omega)
              · rintro (h | h)
                · exact .inr (.inl h)
                · rcases (show m = j ∨ m < j by omega) with h2 | h2
                  · exact .inl h2
                  · exact .inr (.inr (by omega))⟩
            have hpl := Sp.put_len N2 j
            generalize Sp.put N2 j = N7 at *
            clear hs6 hf6 hor HD HN HF B6
            go_wp2
            go_roundw
            case rel => exact ⟨j + 1, D6, f6, N7, by omega, .inl (by omega), rfl, rfl, M6, N6, by omega, F6⟩
            case measure => simp [intOf]; omega
          · have M7 : Hid (Mine spanE w wr B4 d4 S4) := M5.out.old HF.out
            have N7 : Hid (Sp.Rising N2 ∧ ∀ n, n ∈ N2 ↔ Sp.mem S4 n) := ⟨HN.out.1, fun m => by
              rw [HN.out.2, HM4.out]
              constructor
              · rintro (h | h)
                · exact .inl h
                · exact .inr (by omega)
              · rintro (h | h)
                · exact .inl h
                · exact .inr (by omega)⟩
            have hn7 : N2.length ≤ 40 * (k + 1) := by omega
            have hkl' : k + 1 ≤ l.length := hkl
            clear HN HM4 B5 B6 M5 HF HS H
            go_wp2
            go_roundw
            case rel => exact ⟨k + 1, B4, D2, d4, f2, S4, N2, by omega, hkl', by go_num, rfl, rfl, HS5, M7, HD, N7, hn7⟩
            case measure => simp [intOf]; omega
    · have HE : Hid (S = Sp.few l 12) := by
        unfold Hid
        rw [HS.out]
        unfold Sp.few
        rcases hend with h | h
        · rw [List.take_of_length_le (by omega), List.take_of_length_le (by omega)]
        · rw [show k = 12 by omega]
      have HN2 : Hid (Sp.Rising N ∧ ∀ n, n ∈ N ↔ Sp.mem (Sp.few l 12) n) := by rw [← HE.out]; exact HN.out
      have hNl2 : N.length ≤ 480 := by omega
      clear HS HN
      rcases hend with hk1 | ⟨hk1, hk2⟩
      all_goals
        go_wp2
        go_ret2
        exact ⟨B, d, D, f, N, by rw [← HE.out]; rfl, HE.out ▸ HMB.out, HMD.out, HN2.out.1, HN2.out.2, hNl2⟩
end Go.Proofs.Ytlfapnapkdnldaa

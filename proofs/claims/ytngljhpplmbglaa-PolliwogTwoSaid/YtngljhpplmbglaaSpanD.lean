/-
  span: Drop: a set without one span.
-/
import Derived.Test.YtngljhpplmbglaaSpanQ
import Derived.Test.YtngljhpplmbglaaSpanV
import Derived.Deep.DeepCutAuto
import Derived.Deep.CutBlock
namespace Go.Proofs.Ytngljhpplmbglaa
open Go.RowKit

def DropPost (s : List (Int × Int)) (x : Int × Int) (w : World) (e : Ending) (w' : World) : Prop :=
  ∃ B d S, e = .returned (.slice B S.length d) ∧ Mine spanE w w' B d S ∧ Sp.Good S ∧ ∀ n, Sp.mem S n ↔ Sp.mem s n ∧ ¬ Sp.In (Sp.near x) n

set_option maxHeartbeats 4000000 in
set_option maxRecDepth 4000 in
theorem drop_any (A : Option Addr) (c : Nat) (s : List (Int × Int)) (x : Int × Int) (w : World) (h : Rd spanE w A c s) (hg : Sp.Good s) (hl : s.length ≤ 1000000) :
    Calls Try.prog 61 #[.slice A s.length c, .agg #[.int .i64 x.1, .int .i64 x.2]] w (DropPost s x w) := by
  have hlc := h.1
  have hcm := h.2.1
  unfold maxLen at hcm
  have H := Lib.hid h
  clear h
  have hnb := Sp.near_bd x
  obtain ⟨p, hp⟩ : ∃ p, p = Sp.near x := ⟨_, rfl⟩
  have HX := Lib.hid hp
  clear hp
  rw [← HX.out] at hnb
  obtain ⟨x1, x2⟩ := x
  obtain ⟨a, b⟩ := p
  simp only at hnb
  simp only
  go_enter Try.func61, Try.ntmps61
  go_wp2_with fail
  refine (near_any15 (x1, x2) _).mono ?_
  rw [← HX.out]
  rintro e w2 ⟨rfl, f2⟩
  have B2 : Hid (Blk w2 w.heap.size 97 [.int .i64 x1, .int .i64 x2]) := f2.blk (Blk.new w 97 [.int .i64 x1, .int .i64 x2]) (fun h => h)
  have T2 : Hid (Fresh w w2) := ((Touch.refl _ w).alloc _).trans f2 (fun _ _ h => h)
  have b0 : w2.cell? ⟨w.heap.size, 0, none⟩ = some (.int .i64 x1) := B2.out.cell 0
  have b1 : w2.cell? ⟨w.heap.size, 1, none⟩ = some (.int .i64 x2) := B2.out.cell 1
  have bf0 := B2.out.frozen 0
  have bf1 := B2.out.frozen 1
  clear f2
  simp only
  go_wp2_with fail
  refine (empty_any15 (a, b) _).mono ?_
  rintro e w3 ⟨rfl, f3⟩
  have B3 : Hid (Blk w3 w.heap.size 97 [.int .i64 a, .int .i64 b]) := f3.blk ((B2.out.set 0 (.int .i64 a)).set 1 (.int .i64 b)) (fun h => h)
  have T3 : Hid (Fresh w w3) := ((T2.out.setCell (fun e => absurd e (Nat.lt_irrefl _)) _).setCell (fun e => absurd e (Nat.lt_irrefl _)) _).trans f3 (fun _ _ h => h)
  clear b0 b1 bf0 bf1 f3 B2 T2
  simp only
  by_cases hab : a < b
  · have hba : ¬ b ≤ a := by omega
    have H3 : Hid (Rd spanE w3 A c s) := H.out.touch T3.out (fun _ _ _ h => h)
    clear H
    go_wp2_with fail
    go_loopw [5, 18] (fun s5 i wr => ∃ (k : Nat) (B : Option Addr) (d : Nat) (M : List (Int × Int)), k ≤ s.length ∧ i = .int .i64 k ∧ s5 = .slice B M.length d ∧ Hid (M = Sp.left (s.take k) (a, b)) ∧ Hid (Mine spanE w3 wr B d M) ∧ M.length ≤ 2 * k) (fun _ i _ => s.length - (intOf i).toNat)
    case atStart => exact ⟨0, none, 0, [], by omega, rfl, rfl, rfl, Mine.nil _ _, by simp⟩
    case round =>
      obtain ⟨k, B, d, M, hkL, rfl, rfl, HMe, HM, hMl⟩ := hrel
      by_cases hk : k < s.length
      · have hk1 : (k : Int) < (s.length : Int) := by omega
        have hd1 : decide ((k : Int) < (s.length : Int)) = true := decide_eq_true hk1
        have hk0 : (0 : Int) ≤ (k : Int) := by omega
        obtain ⟨g, o, rfl, _, c0, c1⟩ := (HM.out.keepsR H3.out).span_at k hk
        have HS := Lib.hid (Sp.left_succ s (a, b) k hk)
        generalize s.getD k (0, 0) = y at *
        rw [← HMe.out] at HS
        obtain ⟨p, q⟩ := y
        simp only at c0 c1
        go_upto_region 8 with (fail)
        have M5 := Lib.hid (HM.out.alloc (.cells #[.int .i64 p, .int .i64 q] 97))
        have HB5 := Lib.hid ((HM.out.fresh.blk B3.out (fun h => h)).alloc (.cells #[.int .i64 p, .int .i64 q] 97))
        have B5 := Lib.hid (Blk.new wr 97 [.int .i64 p, .int .i64 q])
        generalize wr.alloc (.cells #[.int .i64 p, .int .i64 q] 97) = w5 at *
        have b0 : w5.cell? ⟨w.heap.size, 0, none⟩ = some (.int .i64 a) := HB5.out.cell 0
        have b1 : w5.cell? ⟨w.heap.size, 1, none⟩ = some (.int .i64 b) := HB5.out.cell 1
        have e0 : w5.cell? ⟨wr.heap.size, 0, none⟩ = some (.int .i64 p) := B5.out.cell 0
        have e1 : w5.cell? ⟨wr.heap.size, 1, none⟩ = some (.int .i64 q) := B5.out.cell 1
        clear c0 c1 HM
        go_upto_block 2 with (fail)
        have M6 := Lib.hid (M5.out.alloc (.cells #[.int .i64 p, .int .i64 (min q a), .int .i64 (max p b), .int .i64 q] 97))
        have P6 : Hid (Sl spanE (w5.alloc (.cells #[.int .i64 p, .int .i64 (min q a), .int .i64 (max p b), .int .i64 q] 97)) (some ⟨w5.heap.size, 0, none⟩) 2 [(p, min q a), (max p b, q)]) := Sl.lit spanE w5 _ rfl #[.int .i64 p, .int .i64 (min q a), .int .i64 (max p b), .int .i64 q] _ rfl 2 rfl (by decide)
        have A6 : Hid (Apart (some ⟨w5.heap.size, 0, none⟩) B) := fun ad ad' e e' => by
          injection e with e
          subst e
          have := M5.out.sl.lt ad' e'
          simp only
          omega
        generalize w5.alloc (.cells #[.int .i64 p, .int .i64 (min q a), .int .i64 (max p b), .int .i64 q] 97) = w6 at *
        obtain ⟨n5, hn5⟩ : ∃ n5, n5 = w5.heap.size := ⟨_, rfl⟩
        rw [← hn5] at A6 P6 ⊢
        clear b0 b1 e0 e1 B5 M5 HB5 hn5
        have hLP : Hid (Sp.left1 (a, b) (p, q) = ([(p, min q a), (max p b, q)].take 2).filter fun z => decide (z.1 < z.2)) := rfl
        obtain ⟨L, hL⟩ : ∃ L, L = [(p, min q a), (max p b, q)] := ⟨_, rfl⟩
        have hLl : L.length = 2 := by rw [hL]; rfl
        rw [← hL] at P6 hLP
        go_wp2_with fail
        go_loopw [5, 40] (fun s5 i wx => ∃ (j : Nat) (B : Option Addr) (d : Nat) (N : List (Int × Int)), j ≤ 2 ∧ i = .int .i64 j ∧ s5 = .slice B N.length d ∧ Hid (N = M ++ (L.take j).filter fun z => decide (z.1 < z.2)) ∧ Hid (Mine spanE w3 wx B d N) ∧ Hid (Sl spanE wx (some ⟨n5, 0, none⟩) 2 L) ∧ Hid (Apart (some ⟨n5, 0, none⟩) B) ∧ N.length ≤ 2 * k + j) (fun _ i _ => 2 - (intOf i).toNat)
        case atStart => exact ⟨0, B, d, M, by omega, rfl, rfl, by simp [Hid], M6, P6, A6, by omega⟩
        case round =>
          clear M6 P6 A6
          obtain ⟨j, B, d, N, hj2, rfl, rfl, HNe, M6, P6, A6, hNl⟩ := hrel
          by_cases hj : j < 2
          · have hj1 : (j : Int) < 2 := by omega
            have hj0 : (0 : Int) ≤ (j : Int) := by omega
            have hdj : decide ((j : Int) < 2) = true := decide_eq_true hj1
            obtain ⟨g7, o7, e7, _, c0, c1⟩ := P6.out.span_at j (by omega)
            cases e7
            simp only [Nat.zero_add] at c0 c1
            have HJ : Hid (L.take (j + 1) = L.take j ++ [L.getD j (0, 0)]) := Sp.take_succ_getD L j (by omega)
            generalize L.getD j (0, 0) = z at *
            obtain ⟨u, v⟩ := z
            simp only at c0 c1
            go_wp2_with fail
            refine (empty_any15 (u, v) _).mono ?_
            rintro e w7 ⟨rfl, f7⟩
            have T7 : Hid (Fresh wr w7) := ((Touch.refl _ wr).alloc _).trans f7 (fun _ _ h => h)
            have B7 : Hid (Blk w7 wr.heap.size 97 [.int .i64 u, .int .i64 v]) := f7.blk (Blk.new wr 97 [.int .i64 u, .int .i64 v]) (fun h => h)
            have M7 := Lib.hid (M6.out.old T7.out)
            have P7 := Lib.hid (P6.out.touch T7.out (fun _ _ h => h))
            have hn7 : n5 < w7.heap.size := P7.out.lt _ rfl
            have e0 : w7.cell? ⟨wr.heap.size, 0, none⟩ = some (.int .i64 u) := B7.out.cell 0
            have e1 : w7.cell? ⟨wr.heap.size, 1, none⟩ = some (.int .i64 v) := B7.out.cell 1
            clear f7 T7 B7 M6 P6 c0 c1
            simp only
            have hNl2 : N.length + 1 ≤ 8796093022208 := by omega
            by_cases huv : u < v
            · have hvu : ¬ v ≤ u := by omega
              have R7 := Lib.hid (Sl.rd (Sl.lit spanE w7 _ rfl #[.int .i64 u, .int .i64 v] [(u, v)] rfl 1 rfl (by decide)))
              go_wp2_with (at_builtin; refine app_span Try.underlying79 rfl rfl (l := N) (l2 := [(u, v)]) rfl rfl (M7.out.sl.alloc _) R7.out (by simp; omega) ?_; intro B8 d8 N8 w8 hN8 hs8 ht8 hB8)
              have M8 := Lib.hid ((M7.out.alloc _).app hs8 ht8 hB8)
              have P8 : Hid (Sl spanE w8 (some ⟨n5, 0, none⟩) 2 L) := (P7.out.alloc _).touch ht8 A6.out.not
              have A8 : Hid (Apart (some ⟨n5, 0, none⟩) B8) := A6.out.app (fun ad e => by injection e with e; subst e; simp; omega) hB8
              have HN8 : Hid (N8 = M ++ (L.take (j + 1)).filter fun z => decide (z.1 < z.2)) := by unfold Hid; rw [hN8.out, HNe.out, HJ.out, List.filter_append, List.append_assoc]; simp [huv]
              have hl8 : N8.length ≤ 2 * k + (j + 1) := by rw [hN8.out]; simp; omega
              clear hs8 ht8 hB8 hN8 R7 e0 e1 M7 P7 A6 HNe HJ hn7
              go_roundw
              case rel => exact ⟨j + 1, B8, d8, N8, by omega, by go_num, rfl, HN8, M8, P8, A8, hl8⟩
              case measure => simp [intOf]; omega
            · have hvu : v ≤ u := by omega
              have HN8 : Hid (N = M ++ (L.take (j + 1)).filter fun z => decide (z.1 < z.2)) := by unfold Hid; rw [HJ.out, List.filter_append, ← List.append_assoc, ← HNe.out]; simp [huv]
              clear e0 e1 HNe HJ hn7
              go_wp2
              go_roundw
              case rel => exact ⟨j + 1, B, d, N, by omega, by go_num, rfl, HN8, M7, P7, A6, by omega⟩
              case measure => simp [intOf]; omega
          · have hjj : j = 2 := by omega
            subst hjj
            have HN8 : Hid (N = Sp.left (s.take (k + 1)) (a, b)) := by unfold Hid; rw [HS.out, hLP.out, HNe.out]
            have hkl : k + 1 ≤ s.length := hk
            clear hj HNe HS hLP P6 A6
            go_wp2
            go_roundw
            case rel => exact ⟨k + 1, B, d, N, hkl, by go_num, rfl, HN8, M6, by omega⟩
            case measure => simp [intOf]; omega
      · have hkk : k = s.length := by omega
        have HR : Hid (M = Sp.left s (a, b)) := by unfold Hid; rw [HMe.out, hkk, List.take_length]
        have hk' : ¬ ((k : Int) < (s.length : Int)) := by omega
        have hMb : M.length ≤ 1099511627776 := by omega
        clear hk HMe hkk
        go_wp2_with fail
        refine (of_any B d M wr HM.out.sl.rd hMb).mono ?_
        rintro e w9 ⟨B9, d9, S9, rfl, M9, hof, _⟩
        have MR := Lib.hid (M9.back (T3.out.trans HM.out.fresh (fun _ _ h => h)))
        have HG := Lib.hid hof.good
        have HME : Hid (∀ n, Sp.mem S9 n ↔ Sp.mem s n ∧ ¬ Sp.In (a, b) n) := fun n => by
          rw [hof.mem_small (by rw [HR.out]; exact Sp.left_small hg (by omega) (by omega) hab), HR.out, Sp.mem_left hab]
        clear M9 hof
        go_wp2
        go_ret
        exact ⟨B9, d9, S9, rfl, MR.out, HG.out, fun n => by rw [HME.out, HX.out]⟩
  · have hba : b ≤ a := by omega
    have hMb : s.length ≤ 1099511627776 := by omega
    go_wp2_with fail
    refine (of_any A c s w3 (H.out.touch T3.out (fun _ _ _ h => h)) hMb).mono ?_
    rintro e w9 ⟨B9, d9, S9, rfl, M9, hof, _⟩
    have MR := Lib.hid (M9.back T3.out)
    have HG := Lib.hid hof.good
    have HME : Hid (∀ n, Sp.mem S9 n ↔ Sp.mem s n ∧ ¬ Sp.In (a, b) n) := fun n => by
      rw [hof.mem_small hg.small]
      exact ⟨fun h => ⟨h, fun e => by unfold Sp.In at e; simp only at e; omega⟩, fun h => h.1⟩
    clear M9 hof
    go_wp2
    go_ret
    exact ⟨B9, d9, S9, rfl, MR.out, HG.out, fun n => by rw [HME.out, HX.out]⟩
end Go.Proofs.Ytngljhpplmbglaa

/-
  span.Of: of spans the set of their numbers, written in one way.
-/
import Derived.Test.YtngljhpplmbglaaSort
import Derived.Test.YtngljhpplmbglaaSpanP
import Derived.Deep.DeepCutAuto
import Derived.Deep.QuietTactic
import Derived.BigQuiet
import Derived.StillTailTactics
namespace Go.Proofs.Ytngljhpplmbglaa
open Go.RowKit

/-- Two slices of different blocks. -/
def Apart (B B2 : Option Addr) : Prop := ∀ ad ad', B = some ad → B2 = some ad' → ad.block ≠ ad'.block
theorem Apart.app {B B2 B7 : Option Addr} {n : Nat} (h : Apart B B2) (hB : ∀ ad, B = some ad → ad.block < n) (h7 : B7.map Addr.block = B2.map Addr.block ∨ B7.map Addr.block = some n) : Apart B B7 := fun ad ad' e e' => by
  subst e'
  rcases h7 with e7 | e7
  · obtain ⟨a2, e1, e2⟩ := Option.map_eq_some_iff.1 e7.symm
    have := h ad a2 e e1
    omega
  · have := hB ad e
    simp at e7
    omega
theorem Apart.not {B B2 : Option Addr} (h : Apart B B2) : ∀ ad, B = some ad → ¬ (B2.map Addr.block = some ad.block) := fun ad e e' => by
  obtain ⟨a2, e1, e2⟩ := Option.map_eq_some_iff.1 e'
  exact h ad a2 e e1 e2.symm

namespace Sp
/-- The near ones with numbers. -/
def keep (l : List (Int × Int)) : List (Int × Int) := (l.map near).filter (fun x => decide (x.1 < x.2))
theorem keep_succ (l : List (Int × Int)) (k : Nat) (hk : k < l.length) : keep (l.take (k + 1)) = keep (l.take k) ++ (if (near (l.getD k (0, 0))).1 < (near (l.getD k (0, 0))).2 then [near (l.getD k (0, 0))] else []) := by
  unfold keep
  rw [List.take_succ_eq_append_getElem hk, List.map_append, List.filter_append]
  congr 1
  rw [show l.getD k (0, 0) = l[k] by simp [List.getD, List.getElem?_eq_getElem hk]]
  simp [List.filter_cons]
theorem keep_len (l : List (Int × Int)) : (keep l).length ≤ l.length := by
  unfold keep
  exact Nat.le_trans (List.length_filter_le _ _) (by simp)
theorem keep_lt (l : List (Int × Int)) : ∀ x ∈ keep l, x.1 < x.2 := fun x hx => by
  unfold keep at hx
  simpa using (List.mem_filter.1 hx).2
theorem mem_keep (l : List (Int × Int)) (n : Int) : mem (keep l) n ↔ mem (l.map near) n := by
  unfold keep mem
  constructor
  · rintro ⟨x, hx, h⟩
    exact ⟨x, (List.mem_filter.1 hx).1, h⟩
  · rintro ⟨x, hx, h⟩
    exact ⟨x, List.mem_filter.2 ⟨hx, by simp; omega⟩, h⟩
/-- The set of a list of spans: one canonical list with just the numbers of the near spans. -/
def IsOf (l s : List (Int × Int)) : Prop := Canon s ∧ ∀ n, mem s n ↔ mem (l.map near) n
theorem mem_perm {l l' : List (Int × Int)} (h : l'.Perm l) (n : Int) : mem l' n ↔ mem l n := by
  unfold mem
  exact ⟨fun ⟨x, hx, e⟩ => ⟨x, h.mem_iff.1 hx, e⟩, fun ⟨x, hx, e⟩ => ⟨x, h.mem_iff.2 hx, e⟩⟩
theorem isOf_merge {l l' : List (Int × Int)} (hp : l'.Perm (keep l)) (hs : l'.Pairwise (fun x y => x.1 ≤ y.1)) : IsOf l (l'.foldl mergeStep []) := by
  obtain ⟨h1, h2⟩ := merge_ok l' [] Canon.nil (fun x hx => keep_lt l x (hp.mem_iff.1 hx)) hs (by simp)
  exact ⟨h1, fun n => by rw [h2, mem_perm hp, mem_keep]; simp [mem_nil]⟩
theorem merge_succ (l : List (Int × Int)) (k : Nat) (hk : k < l.length) : (l.take (k + 1)).foldl mergeStep [] = mergeStep ((l.take k).foldl mergeStep []) (l.getD k (0, 0)) := by
  rw [List.take_succ_eq_append_getElem hk, List.foldl_append]
  simp [List.getD, List.getElem?_eq_getElem hk]
theorem mergeStep_len (o : List (Int × Int)) (x : Int × Int) : (mergeStep o x).length ≤ o.length + 1 := by
  unfold mergeStep
  split
  · split
    · simp
    · simp
  · simp
theorem merge_len (l : List (Int × Int)) (o : List (Int × Int)) : (l.foldl mergeStep o).length ≤ o.length + l.length := by
  induction l generalizing o with
  | nil => simp
  | cons x l ih =>
    have := ih (mergeStep o x)
    have := mergeStep_len o x
    simp only [List.foldl_cons, List.length_cons]
    omega
theorem mergeStep_nil (x : Int × Int) : mergeStep [] x = [x] := rfl
theorem mergeStep_snoc (o : List (Int × Int)) (y x : Int × Int) : mergeStep (o ++ [y]) x = if x.1 ≤ y.2 then o ++ [(y.1, max y.2 x.2)] else o ++ [y] ++ [x] := by
  unfold mergeStep
  simp
end Sp

set_option maxHeartbeats 4000000 in
set_option maxRecDepth 4000 in
theorem of_any (A : Option Addr) (c : Nat) (l : List (Int × Int)) (w : World) (h : Rd spanE w A c l) (hl : l.length ≤ 1099511627776) :
    Calls Try.prog 51 #[.slice A l.length c] w fun e w' => ∃ B d S, e = .returned (.slice B S.length d) ∧ Mine spanE w w' B d S ∧ Sp.IsOf l S ∧ S.length ≤ l.length := by
  have hlc := h.1
  have hcm := h.2.1
  unfold maxLen at hcm
  have H := Lib.hid h
  clear h
  go_enter Try.func51, Try.ntmps51
  go_wp2_with fail
  go_loopw [3, 12] (fun s3 i wr => ∃ (k : Nat) (B : Option Addr) (d : Nat) (M : List (Int × Int)), k ≤ l.length ∧ i = .int .i64 k ∧ s3 = .slice B M.length d ∧ Hid (M = Sp.keep (l.take k)) ∧ Hid (Mine spanE w wr B d M) ∧ M.length ≤ k) (fun _ i _ => l.length - (intOf i).toNat)
  case atStart => exact ⟨0, none, 0, [], by omega, rfl, rfl, rfl, Mine.nil _ _, by simp⟩
  case round =>
    obtain ⟨k, B, d, M, hkL, rfl, rfl, HMe, HM, hMl⟩ := hrel
    by_cases hk : k < l.length
    · have hk1 : (k : Int) < (l.length : Int) := by omega
      have hk0 : (0 : Int) ≤ (k : Int) := by omega
      obtain ⟨g, o, rfl, _, c0, c1⟩ := (HM.out.keepsR H.out).span_at k hk
      have HS := Lib.hid (Sp.keep_succ l k hk)
      generalize l.getD k (0, 0) = a at *
      rw [← HMe.out] at HS
      obtain ⟨x, y⟩ := a
      simp only at c0 c1
      go_wp2_with fail
      refine (near_any15 (x, y) _).mono ?_
      rintro e w2 ⟨rfl, f2⟩
      have B2 : Hid (Blk w2 wr.heap.size 97 [.int .i64 x, .int .i64 y]) := f2.blk (Blk.new wr 97 [.int .i64 x, .int .i64 y]) (fun h => h)
      have T2 : Hid (Fresh wr w2) := ((Touch.refl _ wr).alloc _).trans f2 (fun _ _ h => h)
      have b0 : w2.cell? ⟨wr.heap.size, 0, none⟩ = some (.int .i64 x) := B2.out.cell 0
      have b1 : w2.cell? ⟨wr.heap.size, 1, none⟩ = some (.int .i64 y) := B2.out.cell 1
      have bf0 := B2.out.frozen 0
      have bf1 := B2.out.frozen 1
      clear f2 c0 c1
      obtain ⟨p, hp⟩ : ∃ p, p = Sp.near (x, y) := ⟨_, rfl⟩
      rw [← hp] at HS ⊢
      clear hp
      obtain ⟨a, b⟩ := p
      simp only at HS ⊢
      go_wp2_with fail
      refine (empty_any15 (a, b) _).mono ?_
      rintro e w3 ⟨rfl, f3⟩
      have B3 : Hid (Blk w3 wr.heap.size 97 [.int .i64 a, .int .i64 b]) := f3.blk ((B2.out.set 0 (.int .i64 a)).set 1 (.int .i64 b)) (fun h => h)
      have T3 : Hid (Fresh wr w3) := ((T2.out.setCell (fun e => absurd e (Nat.lt_irrefl _)) _).setCell (fun e => absurd e (Nat.lt_irrefl _)) _).trans f3 (fun _ _ h => h)
      have M3 := Lib.hid (HM.out.old T3.out)
      clear b0 b1 bf0 bf1 f3 B2 T2 HM
      have b0 : w3.cell? ⟨wr.heap.size, 0, none⟩ = some (.int .i64 a) := B3.out.cell 0
      have b1 : w3.cell? ⟨wr.heap.size, 1, none⟩ = some (.int .i64 b) := B3.out.cell 1
      simp only
      have hM2 : M.length + 1 ≤ 8796093022208 := by omega
      by_cases hab : a < b
      · have hba : ¬ b ≤ a := by omega
        rw [if_pos hab] at HS
        have R3 : Hid (Rd spanE (w3.alloc (.cells #[.int .i64 a, .int .i64 b] 97)) (some ⟨w3.heap.size, 0, none⟩) 1 [(a, b)]) :=
          Sl.rd (Sl.lit spanE w3 _ rfl #[.int .i64 a, .int .i64 b] [(a, b)] rfl 1 rfl (by decide))
        go_wp2_with (at_builtin; refine app_span Try.underlying79 rfl rfl (l := M) (l2 := [(a, b)]) rfl rfl (M3.out.sl.alloc _) R3.out (by simp; omega) ?_; intro B4 d4 M4 w4 hM4 hs4 ht4 hB4)
        have M5 := Lib.hid ((M3.out.alloc _).app hs4 ht4 hB4)
        have HM4 : Hid (M4 = Sp.keep (l.take (k + 1))) := by unfold Hid; rw [HS.out, hM4.out]
        have hl4 : M4.length ≤ k + 1 := by rw [hM4.out]; simp; omega
        clear hs4 ht4 hB4 hM4 R3 b0 b1 B3 T3 M3 HS
        go_roundw
        case rel => exact ⟨k + 1, B4, d4, M4, by omega, by go_num, rfl, HM4, M5, hl4⟩
        case measure => simp [intOf]; omega
      · have hba : b ≤ a := by omega
        rw [if_neg hab, List.append_nil] at HS
        have HM4 : Hid (M = Sp.keep (l.take (k + 1))) := HS.out.symm
        clear B3 T3 HS b0 b1
        go_wp2
        go_roundw
        case rel => exact ⟨k + 1, B, d, M, by omega, by go_num, rfl, HM4, M3, by omega⟩
        case measure => simp [intOf]; omega
    · have hkk : k = l.length := by omega
      have HK : Hid (M = Sp.keep l) := by unfold Hid; rw [HMe.out, hkk, List.take_length]
      have hk' : ¬ ((k : Int) < (l.length : Int)) := by omega
      have hMb : M.length < 4611686018427387904 := by omega
      have hMl' : M.length ≤ l.length := by omega
      clear hk HMe hkk
      go_wp2_with fail
      refine (sort_any B d M wr HM.out.sl hMb).mono ?_
      rintro e w2 ⟨rfl, L, hp, hs, hsl, ht⟩
      have hL := hp.length_eq
      have HO : Hid (Sp.IsOf l (L.foldl Sp.mergeStep [])) := Sp.isOf_merge (HK.out ▸ hp) hs
      have ML : Hid (Mine spanE w w2 B d L) := ⟨hsl, HM.out.fresh.trans ht (fun k hk e => by
        obtain ⟨ad, e1, e2⟩ := Option.map_eq_some_iff.1 e
        have := HM.out.base ad e1
        omega), HM.out.base⟩
      have ML0 : Hid (Mine spanE w w2 none 0 []) := ⟨Sl.nil _ _, ML.out.fresh, fun _ e => nomatch e⟩
      rw [← hL]
      have hLl : L.length ≤ l.length := by omega
      clear hp hs hsl ht HM HK hMb hMl hL hk' hMl'
      go_wp2_with fail
      go_loopw [6, 30] (fun s6 i wx => ∃ (j : Nat) (B2 : Option Addr) (d2 : Nat) (O : List (Int × Int)), j ≤ L.length ∧ i = .int .i64 j ∧ s6 = .slice B2 O.length d2 ∧ Hid (O = (L.take j).foldl Sp.mergeStep []) ∧ Hid (Mine spanE w wx B2 d2 O) ∧ Hid (Mine spanE w wx B d L) ∧ Hid (Apart B B2) ∧ O.length ≤ j) (fun _ i _ => L.length - (intOf i).toNat)
      case atStart => exact ⟨0, none, 0, [], by omega, rfl, rfl, rfl, ML0, ML, (fun _ _ _ e => nomatch e), by simp⟩
      case round =>
        clear ML ML0 H
        obtain ⟨j, B2, d2, O, hjL, rfl, rfl, HOe, M2, ML, HBB, hOl⟩ := hrel
        by_cases hj : j < L.length
        · have hj1 : (j : Int) < (L.length : Int) := by omega
          have hj0 : (0 : Int) ≤ (j : Int) := by omega
          obtain ⟨g, o, rfl, hg, c0, c1⟩ := ML.out.sl.span_at j hj
          have HS := Lib.hid (Sp.merge_succ L j hj)
          generalize L.getD j (0, 0) = a at *
          rw [← HOe.out] at HS
          obtain ⟨x, y⟩ := a
          simp only at c0 c1
          go_upto_region 14 with (fail)
          have B5 := Lib.hid (Blk.new wr 97 [.int .i64 x, .int .i64 y])
          have M5 := Lib.hid (M2.out.alloc (.cells #[.int .i64 x, .int .i64 y] 97))
          have ML5 := Lib.hid (ML.out.alloc (.cells #[.int .i64 x, .int .i64 y] 97))
          generalize hw5 : wr.alloc (.cells #[.int .i64 x, .int .i64 y] 97) = w5 at *
          have e0 : w5.cell? ⟨wr.heap.size, 0, none⟩ = some (.int .i64 x) := B5.out.cell 0
          have e1 : w5.cell? ⟨wr.heap.size, 1, none⟩ = some (.int .i64 y) := B5.out.cell 1
          have hne : Hid (Apart (some ⟨g, o, none⟩) B2) := HBB.out
          have hgw : g < w5.heap.size := ML5.out.sl.lt _ rfl
          clear c0 c1 HBB M2 ML hw5 hg
          have hO2 : O.length + 1 ≤ 8796093022208 := by omega
          rcases List.eq_nil_or_concat O with rfl | ⟨O0, q, rfl⟩
          · rw [Sp.mergeStep_nil] at HS
            obtain ⟨z, hz⟩ : ∃ z : Int, (([] : List (Int × Int)).length : Int) - 1 = z := ⟨_, rfl⟩
            have hz0 : z < 0 := by rw [← hz]; decide
            have hd : decide (0 ≤ z) = false := decide_eq_false (by omega)
            go_upto_region 15 with (fail)
            go_quiet (fail)
            have M6 := Lib.hid (M5.out.drewN nq)
            have ML6 := Lib.hid (ML5.out.drewN nq)
            have R6 := Lib.hid (Sl.rd (Sl.lit spanE (w5.drewN nq) _ rfl #[.int .i64 x, .int .i64 y] [(x, y)] rfl 1 rfl (by decide)))
            have e0' : (w5.drewN nq).cell? ⟨wr.heap.size, 0, none⟩ = some (.int .i64 x) := e0
            have e1' : (w5.drewN nq).cell? ⟨wr.heap.size, 1, none⟩ = some (.int .i64 y) := e1
            have hgw' : g < (w5.drewN nq).heap.size := hgw
            clear e0 e1 hgw M5 ML5 B5
            generalize w5.drewN nq = w6 at *
            go_wp2_with (at_builtin; refine app_span Try.underlying80 rfl rfl (l := []) (l2 := [(x, y)]) rfl rfl (M6.out.sl.alloc _) R6.out (by simp) ?_; intro B7 d7 O7 w7 hO7 hs7 ht7 hB7)
            have M7 := Lib.hid ((M6.out.alloc _).app hs7 ht7 hB7)
            have hgw7 : g < (w6.alloc (.cells #[.int .i64 x, .int .i64 y] 97)).heap.size := by simp; omega
            have ML7 : Hid (Mine spanE w w7 (some ⟨g, o, none⟩) d L) := ⟨(ML6.out.sl.alloc _).touch ht7 hne.out.not, M7.out.fresh, ML6.out.base⟩
            have HA7 : Hid (Apart (some ⟨g, o, none⟩) B7) := hne.out.app (fun ad e => by injection e with e; subst e; exact hgw7) hB7
            have HO7 : Hid (O7 = (L.take (j + 1)).foldl Sp.mergeStep []) := by unfold Hid; rw [hO7.out, HS.out]; rfl
            have hl7 : O7.length ≤ j + 1 := by rw [hO7.out]; simp
            clear hs7 ht7 hB7 hO7 R6 e0' e1' M6 ML6 HS hne HOe hgw7 hgw'
            go_roundw
            case rel => exact ⟨j + 1, B7, d7, O7, by omega, by go_num, rfl, HO7, M7, ML7, HA7, hl7⟩
            case measure => simp [intOf]; omega
          · rw [List.concat_eq_append] at *
            rw [Sp.mergeStep_snoc] at HS
            obtain ⟨g2, o2, rfl, hg2, f0, f1⟩ := M5.out.sl.span_at O0.length (by simp)
            have hq : (O0 ++ [q]).getD O0.length (0, 0) = q := by simp
            rw [hq] at f0 f1
            obtain ⟨p, q⟩ := q
            simp only at f0 f1 HS
            have hgg : g ≠ g2 := hne.out _ _ rfl rfl
            have hOl2 : (O0 ++ [(p, q)]).length = O0.length + 1 := by simp
            rw [hOl2]
            have hm0 : (0 : Int) ≤ (O0.length : Int) := by omega
            have hm1 : (O0.length : Int) < ((O0.length + 1 : Nat) : Int) := by omega
            have hm2 : (O0.length : Int) < (O0.length : Int) + 1 := by omega
            have hOl3 : O0.length + 1 ≤ j := by rw [← hOl2]; exact hOl
            by_cases hxq : x ≤ q
            · rw [if_pos hxq] at HS
              go_upto_region 15 with (fail)
              go_quiet (fail)
              have M6 := Lib.hid (M5.out.drewN nq)
              have ML6 := Lib.hid (ML5.out.drewN nq)
              have e1' : (w5.drewN nq).cell? ⟨wr.heap.size, 1, none⟩ = some (.int .i64 y) := e1
              have f1' : (w5.drewN nq).cell? ⟨g2, o2 + O0.length * 2 + 1, none⟩ = some (.int .i64 q) := f1
              have fz := M6.out.sl.frozen g2 o2 rfl (o2 + O0.length * 2 + 1)
              clear e0 e1 f0 f1 hgw M5 ML5 B5
              generalize w5.drewN nq = w6 at *
              have hi : O0.length < (O0 ++ [(p, q)]).length := by omega
              have S7 := Lib.hid (M6.out.sl.put (i := O0.length) (f := 1) (a := (p, max q y)) (u := .int .i64 (max q y)) hi (by decide) (by simp [spanE]))
              have T7 : Hid (Touch (fun k => k = g2) w6 (w6.setCell ⟨g2, o2 + O0.length * 2 + 1, none⟩ (.int .i64 (max q y))).drew) := (Touch.set1 w6 g2 _ _).drew
              have hLe : Hid ((O0 ++ [(p, q)]).set O0.length (p, max q y) = O0 ++ [(p, max q y)]) := by unfold Hid; simp
              have hl7 : (O0 ++ [(p, max q y)]).length = O0.length + 1 := by simp
              go_upto_region 16 with (fail)
              go_still_tail 12, (by kernel_rfl)
              change wpList _ _ _ _ _ w6.drew
              go_wp2_with fail
              have M7 : Hid (Mine spanE w (w6.setCell ⟨g2, o2 + O0.length * 2 + 1, none⟩ (.int .i64 (max q y))).drew (some ⟨g2, o2, none⟩) d2 (O0 ++ [(p, max q y)])) := ⟨by have := S7.out; rw [hLe.out] at this; exact this, M6.out.fresh.trans T7.out (fun k hk e => by have := M6.out.base _ rfl; simp only at this; omega), M6.out.base⟩
              have ML7 : Hid (Mine spanE w (w6.setCell ⟨g2, o2 + O0.length * 2 + 1, none⟩ (.int .i64 (max q y))).drew (some ⟨g, o, none⟩) d L) := ⟨ML6.out.sl.touch T7.out (fun ad e e' => by injection e with e; subst e; exact hgg e'), M7.out.fresh, ML6.out.base⟩
              refine ⟨⟨j + 1, _, d2, O0 ++ [(p, max q y)], by omega, by go_num, by rw [hl7], HS.out.symm, M7, ML7, hne, by omega⟩, by simp [intOf]; omega⟩
            · rw [if_neg hxq] at HS
              have hqx : q < x := by omega
              go_upto_region 15 with (fail)
              go_quiet (fail)
              have M6 := Lib.hid (M5.out.drewN nq)
              have ML6 := Lib.hid (ML5.out.drewN nq)
              have R6 := Lib.hid (Sl.rd (Sl.lit spanE (w5.drewN nq) _ rfl #[.int .i64 x, .int .i64 y] [(x, y)] rfl 1 rfl (by decide)))
              have e0' : (w5.drewN nq).cell? ⟨wr.heap.size, 0, none⟩ = some (.int .i64 x) := e0
              have e1' : (w5.drewN nq).cell? ⟨wr.heap.size, 1, none⟩ = some (.int .i64 y) := e1
              have hgw' : g < (w5.drewN nq).heap.size := hgw
              clear e0 e1 hgw M5 ML5 B5 f0 f1
              generalize w5.drewN nq = w6 at *
              go_wp2_with (at_builtin; refine app_span Try.underlying80 rfl rfl (l := O0 ++ [(p, q)]) (l2 := [(x, y)]) (by rw [hOl2]; rfl) rfl (M6.out.sl.alloc _) R6.out (by simp; omega) ?_; intro B7 d7 O7 w7 hO7 hs7 ht7 hB7)
              have M7 := Lib.hid ((M6.out.alloc _).app hs7 ht7 hB7)
              have hgw7 : g < (w6.alloc (.cells #[.int .i64 x, .int .i64 y] 97)).heap.size := by simp; omega
              have ML7 : Hid (Mine spanE w w7 (some ⟨g, o, none⟩) d L) := ⟨(ML6.out.sl.alloc _).touch ht7 hne.out.not, M7.out.fresh, ML6.out.base⟩
              have HA7 : Hid (Apart (some ⟨g, o, none⟩) B7) := hne.out.app (fun ad e => by injection e with e; subst e; exact hgw7) hB7
              have HO7 : Hid (O7 = (L.take (j + 1)).foldl Sp.mergeStep []) := by unfold Hid; rw [hO7.out, HS.out]
              have hl7 : O7.length ≤ j + 1 := by rw [hO7.out]; simp; omega
              clear hs7 ht7 hB7 hO7 R6 e0' e1' M6 ML6 HS hne HOe hgw7 hgw'
              go_roundw
              case rel => exact ⟨j + 1, B7, d7, O7, by omega, by go_num, rfl, HO7, M7, ML7, HA7, hl7⟩
              case measure => simp [intOf]; omega
        · have hjj : j = L.length := by omega
          have HK : Hid (Sp.IsOf l O) := by unfold Hid; rw [HOe.out, hjj, List.take_length]; exact HO.out
          have hj' : ¬ ((j : Int) < (L.length : Int)) := by omega
          have hOl' : O.length ≤ l.length := by omega
          clear hj HOe hjj HO ML HBB
          go_wp2
          go_ret
          exact ⟨B2, d2, O, rfl, M2.out, HK.out, hOl'⟩
end Go.Proofs.Ytngljhpplmbglaa

/-
  polliwoglaw04.RingPlays: behind any calls what stands in a row is what the document says.
-/
import Derived.Test.YtfieckhhckfjiaaRingActs
import Derived.Test.YtfieckhhckfjiaaNum
import Derived.Deep.RegionHeld3
namespace Go.Proofs.Ytfieckhhckfjiaa
open Go.RowKit

set_option maxRecDepth 100000 in
set_option maxHeartbeats 4000000 in
theorem ringPlays.core (x x0 x1 y0 : Int) (m : Nat) (h0 : (if 5000 < x then (5000 : Int) else x) = x0) (h1 : (if -2 < x0 then x0 else -2) = x1) (h2 : (if 4096 < x1 then (4096 : Int) else x1) = y0) (h3 : (if 0 < y0 then y0 else 0) = (m : Int)) (hm : (max 0 (min x1 4096)).toNat = m) (hm2 : m ≤ 4096)
    (A : Option Addr) (c : Nat) (L : List (Int × Int)) (w : World) (hr : Rd act4E w A c L) :
    Calls Try.prog 6 #[.int .i64 x, .slice A L.length c] w fun e w' => e = .returned (.bool true) ∧ Below w.heap.size w w' := by
  have hlc := hr.1
  have hcm := hr.2.1
  unfold maxLen at hcm
  have HR := Lib.hid hr
  have HM := Lib.hid hm
  clear hr hm
  go_enter Try.func6, Try.ntmps6
  go_wp2_with fail
  refine (awake04_any _).mono ?_
  rintro e w1 ⟨rfl, t1⟩
  go_wp2_with fail
  refine (ringInt_new x1 w1).mono ?_
  rintro e w2 ⟨rfl, r2, t2⟩
  rw [HM.out] at r2
  have H2 : Hid (RpSt w w2 w1.heap.size none m [] none 0 []) :=
    ⟨r2, Sl.nil _ _, t1.trans t2 (fun _ _ h => h), t1.size, (fun _ e => by cases e), (fun _ e => by cases e)⟩
  generalize w1.heap.size = g at *
  clear r2 t1 t2
  go_wp2_with fail
  clear h0 h1 h2 h3
  go_loopw [6, 7] (fun s6 i wr => ∃ (k : Nat) (b : Option Nat) (q : List Int) (A6 : Option Addr) (c6 : Nat), k ≤ 120 ∧ k ≤ L.length ∧ s6 = .slice A6 q.length c6 ∧ i = .int .i64 k ∧ RpSt w wr g b m q A6 c6 q) (fun _ i _ => 120 - (intOf i).toNat)
  case atStart => exact ⟨0, none, [], none, 0, by omega, by omega, rfl, rfl, H2.out⟩
  case round =>
    obtain ⟨k, b, q, A6, c6, hk120, hkL, rfl, rfl, hst⟩ := hrel
    have HS := Lib.hid hst
    clear hst
    rcases (show (k < L.length ∧ k < 120) ∨ ¬ ((k : Int) < (L.length : Int)) ∨ ((k : Int) < (L.length : Int) ∧ ¬ ((k : Int) < 120)) by omega) with ⟨hkl, hk2⟩ | hend
    · have hk1 : (k : Int) < (L.length : Int) := by omega
      have hk2 : (k : Int) < 120 := by omega
      have hd1 : decide ((k : Int) < (L.length : Int)) = true := decide_eq_true hk1
      have hd2 : decide ((k : Int) < 120) = true := decide_eq_true hk2
      have hqm := HS.out.ring.len_le
      obtain ⟨gA, oA, hA, hgA, hc0, hc1⟩ := (HR.out.touch HS.out.fresh (fun _ _ _ h => h)).act4_at k hkl
      generalize (L.getD k (0, 0)).1 = kd at *
      generalize (L.getD k (0, 0)).2 = n at *
      subst hA
      have HS1 : Hid (∀ t, RpSt w (wr.alloc (.cells #[.int .i64 kd, .int .i64 n] t)) g b m q A6 c6 q) := fun t => HS.out.old ((Touch.refl _ wr).alloc _)
      have HB1 := Lib.hid (Blk.new wr 46 [.int .i64 kd, .int .i64 n])
      have hwf := Lib.hid HS.out.wf
      clear HS
      go_upto_region 13 with (fail)
      have HSa := Lib.hid (HS1.out 46)
      clear HS1 hc0 hc1
      generalize wr.alloc (.cells #[.int .i64 kd, .int .i64 n] 46) = wa at *
      generalize wr.heap.size = g8 at *
      have e0 : wa.cell? ⟨g8, 0, none⟩ = some (.int .i64 kd) := HB1.out.cell 0
      have e1 : wa.cell? ⟨g8, 1, none⟩ = some (.int .i64 n) := HB1.out.cell 1
      clear hgA
      go_upto_block 2 with (fail)
      go_cut [6] (fun v wx => ∃ (b' : Option Nat) (q' : List Int) (A' : Option Addr) (c' : Nat), v = .slice A' q'.length c' ∧ RpSt w wx g b' m q' A' c' q')
      case first =>
        as_aux_lemma =>
        by_cases hk : kd = 1 ∨ kd = 2
        · by_cases hq : q.length = 0
          · have hq0 : q = [] := List.eq_nil_of_length_eq_zero hq
            subst hq0
            rcases hk with rfl | rfl
            · as_aux_lemma =>
              go_wp2_with fail
              refine (ringInt_first g b m [] wa HSa.out.ring).mono ?_
              rintro e w3 ⟨rfl, m3, rfl⟩
              have HS3 := Lib.hid (HSa.out.drewN m3)
              go_wp2_with fail
              refine (ringInt_take g b m [] (wa.drewN m3) HS3.out.ring).mono ?_
              rintro e w5 ⟨rfl, r5, t5⟩
              have HS5 := Lib.hid (HS3.out.ringTo r5 t5 (fun _ h => .inl h))
              clear r5 t5
              go_wp2
              go_roundw
              case rel => exact ⟨k + 1, b, [], A6, c6, by omega, by omega, rfl, by go_num, HS5.out⟩
              case measure => simp [intOf]; omega
            · as_aux_lemma =>
              go_wp2_with fail
              refine (ringInt_first g b m [] wa HSa.out.ring).mono ?_
              rintro e w3 ⟨rfl, m3, rfl⟩
              have HS3 := Lib.hid (HSa.out.drewN m3)
              go_wp2
              go_roundw
              case rel => exact ⟨k + 1, b, [], A6, c6, by omega, by omega, rfl, by go_num, HS3.out⟩
              case measure => simp [intOf]; omega
          · have hqb : ((q.length : Int) == 0) = false := by simpa using hq
            obtain ⟨gS, oS, hA6, _, hcS⟩ := HSa.out.sl.int_at 0 (by omega)
            subst hA6
            have hq1 : 1 ≤ q.length := by omega
            have hcq := HSa.out.sl.1
            have hcq2 := HSa.out.sl.2.1
            have HF := Lib.hid (ringInt_first g b m q wa HSa.out.ring)
            have HK := Lib.hid (fun m3 => ringInt_take g b m q (wa.drewN m3) (HSa.out.drewN m3).ring)
            have HC5 : Hid (∀ w5, Sl intE w5 (some ⟨gS, oS, none⟩) c6 q → w5.cell? ⟨gS, oS, none⟩ = some (.int .i64 (q.getD 0 0))) := fun w5 h => by
              obtain ⟨g2, o2, e, _, hc⟩ := h.int_at 0 (by omega)
              injection e with e
              injection e with e1 e2
              subst e1 e2
              exact hc
            rw [if_neg hq] at HF
            simp only [if_neg hq] at HK
            generalize q.getD 0 0 = v at *
            rcases hk with rfl | rfl
            · as_aux_lemma =>
              go_wp2_with fail
              refine HF.out.mono ?_
              rintro e w3 ⟨rfl, m3, rfl⟩
              have HS3 := Lib.hid (HSa.out.drewN m3)
              go_wp2_with fail
              refine (HK.out m3).mono ?_
              rintro e w5 ⟨rfl, r5, t5⟩
              have HS5 := Lib.hid (HS3.out.ringTo r5 t5 (fun _ h => .inl h))
              have hc5 := HC5.out w5 HS5.out.sl
              have e5 : w5.cell? ⟨g8, 0, none⟩ = some (.int .i64 1) := (t5.blk HB1.out hwf.out).cell 0
              have HT5 := Lib.hid (HS5.out.tail hq1)
              clear r5 t5 hcS HF HK
              go_wp2
              · rename_i h
                go_meet
                case rel => exact ⟨b, q.tail, some ⟨gS, oS, none⟩, 0, by rw [List.length_tail], by have := HT5.out; rw [if_pos h, h] at this; exact this⟩
              · rename_i h
                go_meet
                case rel => exact ⟨b, q.tail, some ⟨gS, oS + 1, none⟩, c6 - 1, by rw [List.length_tail], by have := HT5.out; rw [if_neg h] at this; exact this⟩
            · as_aux_lemma =>
              go_wp2_with fail
              refine HF.out.mono ?_
              rintro e w3 ⟨rfl, m3, rfl⟩
              have HS3 := Lib.hid (HSa.out.drewN m3)
              have hc5 := HC5.out wa HSa.out.sl
              clear hcS HF HK
              go_wp2
              go_meet
              case rel => exact ⟨b, q, _, c6, rfl, HS3.out⟩
        · have k1 : (kd == 1) = false := by simp; omega
          have k2 : (kd == 2) = false := by simp; omega
          clear hk
          by_cases hk3 : kd = 3
          · as_aux_lemma =>
            subst hk3
            have HAt := ringInt_at g b m q n wa HSa.out.ring
            by_cases hin : 0 ≤ n ∧ n < q.length
            · rw [if_pos hin, decide_eq_true hin] at HAt
              obtain ⟨nn, rfl⟩ : ∃ nn : Nat, n = nn := ⟨n.toNat, by omega⟩
              rw [Int.toNat_natCast] at HAt
              have hn0 : (0 : Int) ≤ (nn : Int) := by omega
              have hn1 : (nn : Int) < (q.length : Int) := hin.2
              obtain ⟨gS, oS, hA6, _, hcS⟩ := HSa.out.sl.int_at nn (by omega)
              subst hA6
              generalize q.getD nn 0 = v at *
              have HAt' := Lib.hid HAt
              clear HAt hin
              go_wp2_with fail
              refine HAt'.out.mono ?_
              rintro e w3 ⟨rfl, m3, rfl⟩
              have HS3 := Lib.hid (HSa.out.drewN m3)
              clear HAt'
              go_wp2
              go_meet
              case rel => exact ⟨b, q, _, c6, rfl, HS3.out⟩
            · rw [if_neg hin, decide_eq_false hin] at HAt
              have HAt' := Lib.hid HAt
              clear HAt
              rcases (show n < 0 ∨ (0 ≤ n ∧ (q.length : Int) ≤ n) by omega) with hn | ⟨hn, hn2⟩
              all_goals
                clear hin
                go_wp2_with fail
                refine HAt'.out.mono ?_
                rintro e w3 ⟨rfl, m3, rfl⟩
                have HS3 := Lib.hid (HSa.out.drewN m3)
                clear HAt'
                go_wp2
                go_meet
                case rel => exact ⟨b, q, A6, c6, rfl, HS3.out⟩
          · have k3 : (kd == 3) = false := by simp; omega
            clear hk3
            by_cases hk4 : kd = 4
            · as_aux_lemma =>
              subst hk4
              go_wp2_with fail
              refine (ringInt_clear g b m q wa HSa.out.ring).mono ?_
              rintro e w3 ⟨A3, c3, rfl, s3, r3, t3, _, _⟩
              have HS3 := Lib.hid (HSa.out.ringTo r3 (t3.mono (fun _ _ h => .inl h)) (fun _ e => by cases e))
              clear r3 t3
              go_wp2_with fail
              refine (same_any A3 A6 c3 c6 q q w3 s3.rd HS3.out.sl.rd).mono ?_
              rintro e w4 ⟨rfl, t4⟩
              rw [decide_eq_true rfl]
              have HS4 := Lib.hid (HS3.out.slTo t4 (Sl.nil intE w4) (fun _ e => by cases e))
              clear s3 t4 HS3
              go_wp2
              go_meet
              case rel => exact ⟨none, [], none, 0, rfl, HS4.out⟩
            · have k4 : (kd == 4) = false := by simp; omega
              clear hk4
              by_cases hk5 : kd = 5
              · as_aux_lemma =>
                subst hk5
                go_wp2_with fail
                refine (ringInt_clone g b m q wa HSa.out.ring).mono ?_
                rintro e w3 ⟨g', b', rfl, r3, t3, hg', hb'⟩
                have HO3 : Hid (OwnInt wa w3 g' m q) := ⟨b', r3, t3, hg', hb'⟩
                clear r3 t3 hg' hb'
                go_wp2_with fail
                refine (ownInt_all g' m q wa w3 HO3.out).mono ?_
                rintro e w4 ⟨A4, c4, rfl, s4, t4, _⟩
                have HO4 := Lib.hid (HO3.out.then_ t4)
                clear t4 HO3
                go_wp2_with fail
                refine (same_any A4 A6 c4 c6 q q w4 s4.rd (HSa.out.old HO4.out.fresh).sl.rd).mono ?_
                rintro e w5 ⟨rfl, t5⟩
                rw [decide_eq_true rfl]
                have HO5 := Lib.hid (HO4.out.then_ t5)
                clear s4 t5 HO4
                go_wp2_with fail
                refine (ownInt_most g' m q wa w5 HO5.out).mono ?_
                rintro e w6 ⟨rfl, rfl⟩
                go_wp2_with fail
                refine (ownInt_take g' m q wa w6 HO5.out).mono ?_
                rintro e w7 ⟨rfl, h7⟩
                generalize (if q.length = 0 then (9 : Int) else 0) = rt
                generalize q.getD 0 0 = vt
                have HO7 := Lib.hid h7
                clear h7 HO5
                go_wp2_with fail
                refine (ownInt_put g' m q.tail 9 wa w7 HO7.out).mono ?_
                rintro e w8 ⟨rfl, h8⟩
                generalize (if q.tail.length < m then (0 : Int) else 7) = rp
                have HS8 := Lib.hid (HSa.out.old h8.fresh)
                clear h8 HO7
                go_wp2
                go_meet
                case rel => exact ⟨b, q, A6, c6, rfl, HS8.out⟩
              · as_aux_lemma =>
                have k5 : (kd == 5) = false := by simp; omega
                clear hk5
                go_wp2_with fail
                refine (ringInt_put g b m q n wa HSa.out.ring).mono ?_
                rintro e w3 ⟨rfl, b3, r3, t3, hb3⟩
                by_cases hroom : q.length < m
                · as_aux_lemma =>
                  rw [if_pos hroom] at r3 ⊢
                  have HS3 := Lib.hid (HSa.out.ringTo r3 t3 hb3)
                  have B3 := t3.blk HB1.out hwf.out
                  have e3 : w3.cell? ⟨g8, 1, none⟩ = some (.int .i64 n) := B3.cell 1
                  have hg8 := B3.lt
                  have HB3 := Lib.hid B3
                  have hri : (q.length : Int) < (m : Int) := by omega
                  have hqm3 := hqm
                  clear r3 t3 hb3 B3 e0 e1 hroom
                  go_upto_region 18 with (fail)
                  have la : Hid (Sl intE (w3.alloc (.cells #[] 3)) (some ⟨w3.heap.size, 0, none⟩) 0 []) := Sl.lit intE w3 _ rfl #[] [] rfl 0 rfl (by decide)
                  have l1 : Hid (Sl intE (w3.alloc (.cells #[.int .i64 n] 3)) (some ⟨w3.heap.size, 0, none⟩) 1 [n]) := Sl.lit intE w3 _ rfl #[.int .i64 n] [n] rfl 1 rfl (by decide)
                  have lc : Hid (Sl intE ((w3.alloc (.cells #[.int .i64 n] 3)).alloc (.cells #[] 3)) (some ⟨w3.heap.size + 1, 0, none⟩) 0 []) := Sl.lit intE _ _ (by simp) #[] [] rfl 0 rfl (by decide)
                  have rb : Hid (Sl intE ((w3.alloc (.cells #[] 3)).alloc (.cells #[.int .i64 n] 3)) (some ⟨w3.heap.size + 1, 0, none⟩) 1 [n]) := Sl.lit intE _ _ (by simp) #[.int .i64 n] [n] rfl 1 rfl (by decide)
                  go_region_held3 (fun wx => wx.cell? ⟨g8, 1, none⟩ = some (.int .i64 n))
                    (first | exact e3 | exact (HB3.out.alloc _).cell 1 | exact ((HB3.out.alloc _).alloc _).cell 1 | exact e4 | exact (b4.alloc _).cell 1 | exact e5)
                    (first
                    | (refine stp_int rfl rfl (l := []) (l2 := q) rfl rfl (by first | exact la.out | exact la.out.alloc _ | exact lc.out) (by first | exact (HS3.out.sl.alloc _).rd | exact ((HS3.out.sl.alloc _).alloc _).rd) (by simp; omega) ?_; intro A4 c4 L4 w4 hL4 hs4 ht4 hA4;
                       have b4 : Blk w4 g8 46 [.int .i64 kd, .int .i64 n] := (by first | exact ht4.blk (HB3.out.alloc _) (fun e => by simp at e; omega) | exact ht4.blk ((HB3.out.alloc _).alloc _) (fun e => by simp at e; omega));
                       have e4 : w4.cell? ⟨g8, 1, none⟩ = some (.int .i64 n) := b4.cell 1;
                       have hg4 := b4.lt;
                       have f4 : Fresh w3 w4 := (by first | exact (((Touch.refl _ w3).drew.alloc _).trans ht4 (fun k hk e => by simp at e; omega)) | exact ((((Touch.refl _ w3).drew.alloc _).alloc _).trans ht4 (fun k hk e => by simp at e; omega)));
                       have hb4 : ∀ ad, A4 = some ad → w3.heap.size ≤ ad.block := (fun ad ha => by subst ha; rcases hA4 with e | e <;> simp at e <;> omega))
                    | (refine stp_int rfl rfl (l := L4) (l2 := [n]) rfl rfl (by first | exact hs4 | exact hs4.alloc _) (by first | exact (Sl.touch (by exact rb.out) ht4 (fun ad ha e => by injection ha with ha; subst ha; simp at e)).rd | exact (Sl.touch (by exact l1.out.alloc _) ht4 (fun ad ha e => by injection ha with ha; subst ha; simp at e)).rd | exact Sl.rd (Sl.lit intE w4 _ rfl _ _ rfl _ rfl (by decide))) (by have := hL4.out; subst this; simp; omega) ?_; intro A5 c5 L5 w5 hL5 hs5 ht5 hA5;
                       have f5 : Fresh w3 w5 := (by first | exact f4.trans ht5 (fun k hk e => by cases A4 with | none => cases e | some ad => have := hb4 ad rfl; simp at e; omega) | exact (f4.alloc _).trans ht5 (fun k hk e => by cases A4 with | none => cases e | some ad => have := hb4 ad rfl; simp at e; omega));
                       have e5 : w5.cell? ⟨g8, 1, none⟩ = some (.int .i64 n) := (f5.blk HB3.out (fun h => h)).cell 1;
                       have hb5 : ∀ ad, A5 = some ad → w3.heap.size ≤ ad.block := (fun ad ha => by subst ha; rcases hA5 with e | e; (cases A4 with | none => cases e | some ad0 => have := hb4 ad0 rfl; simp at e; omega); (have := f4.size; simp at e; omega))))
                  all_goals
                    have HS5 := Lib.hid (HS3.out.slTo f5 hs5 hb5)
                    have hL : L5 = q ++ [n] := by rw [hL5.out, hL4.out]; rfl
                    clear f5 hs5 hb5 f4 hs4 hb4 ht4 ht5 hA4 hA5 e5 e4 e3 b4 HS3 HB3 la l1 lc rb
                    subst hL
                    go_wp2
                    go_meet
                    case rel => exact ⟨b3, q ++ [n], A5, c5, rfl, HS5.out⟩
                · as_aux_lemma =>
                  rw [if_neg hroom] at r3 ⊢
                  have HS3 := Lib.hid (HSa.out.ringTo r3 t3 hb3)
                  have hri : ¬ ((q.length : Int) < (m : Int)) := by omega
                  clear r3 t3 hb3
                  go_wp2
                  go_meet
                  case rel => exact ⟨b3, q, A6, c6, rfl, HS3.out⟩
      case rest =>
        as_aux_lemma =>
        obtain ⟨b5, q5, A5, c5, rfl, hst⟩ := hcut
        have HS := Lib.hid hst
        clear hst HSa HB1 hwf e0 e1 hqm
        have hqm := HS.out.ring.len_le
        go_wp2_with fail
        refine (ownInt_all g m q5 w wc HS.out.own).mono ?_
        rintro e w6 ⟨A7, c7, rfl, s7, t7, _⟩
        have HS6 := Lib.hid (HS.out.old t7)
        clear t7 HS
        go_wp2_with fail
        refine (same_any A7 A5 c7 c5 q5 q5 w6 s7.rd HS6.out.sl.rd).mono ?_
        rintro e w8 ⟨rfl, t8⟩
        rw [decide_eq_true rfl]
        have HS8 := Lib.hid (HS6.out.old t8)
        clear t8 HS6 s7
        go_wp2_with fail
        refine (ownInt_len g m q5 w w8 HS8.out.own).mono ?_
        rintro e w9 ⟨rfl, rfl⟩
        go_wp2_with fail
        refine (ringInt_room g b5 m q5 w9 HS8.out.ring).mono ?_
        rintro e w10 ⟨rfl, m10, rfl⟩
        have HS9 := Lib.hid (HS8.out.drewN m10)
        go_wp2_with fail
        refine (ringInt_most g b5 m q5 (w9.drewN m10) HS9.out.ring).mono ?_
        rintro e w11 ⟨rfl, rfl⟩
        go_wp2
        go_roundw
        case rel => exact ⟨k + 1, b5, q5, A5, c5, by omega, by omega, rfl, by go_num, HS9.out⟩
        case measure => simp [intOf]; omega
    · rcases hend with hk1 | ⟨hk1, hk2⟩
      all_goals
        go_wp2
        go_ret
        exact ⟨rfl, HS.out.fresh.below (Nat.le_refl _) (fun _ _ h => h)⟩
end Go.Proofs.Ytfieckhhckfjiaa

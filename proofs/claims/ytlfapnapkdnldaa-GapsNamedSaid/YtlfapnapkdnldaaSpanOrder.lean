/-
  SpanOrder: span by span, in whatever order, the set is the same as at once.
-/
import Derived.Test.YtlfapnapkdnldaaSpanTwo
import Derived.Deep.CutBlock
namespace Go.Proofs.Ytlfapnapkdnldaa
open Go.RowKit Go.ChangeShapes Go.WideShapes Go.ChangeAt

namespace Sp
theorem few_bd (l : List (Int × Int)) (k : Nat) (n : Int) (h : mem (few l k) n) : -100 ≤ n ∧ n < 100 := by
  obtain ⟨x, hx, e⟩ := h
  obtain ⟨y, _, rfl⟩ := List.mem_map.1 hx
  have := few1_bd y
  omega
theorem Good.short {S : List (Int × Int)} (h : Good S) (hb : ∀ n, mem S n → -100 ≤ n ∧ n < 100) : S.length ≤ 200 := by
  have := Canon.len_le h.1 (-100) 100 (by omega) hb
  omega
theorem Canon.empty {S : List (Int × Int)} (h : Canon S) (hb : ∀ n, ¬ mem S n) : S = [] := by
  cases S with
  | nil => rfl
  | cons x S => exact absurd ⟨x, by simp, Int.le_refl _, h.1 x (by simp)⟩ (hb x.1)
end Sp

set_option maxHeartbeats 4000000 in
set_option maxRecDepth 4000 in
theorem spanOrder.core (A : Option Addr) (c : Nat) (l : List (Int × Int)) (A2 : Option Addr) (c2 : Nat) (O : List Int) (w : World) (h : Rd spanE w A c l) (h2 : Rd intE w A2 c2 O) :
    Calls Try.prog 5 #[.slice A l.length c, .slice A2 O.length c2] w fun e w' => e = .returned (.bool true) ∧ Below w.heap.size w w' := by
  have H := Lib.hid h
  have H2 := Lib.hid h2
  have hOc := h2.1
  have hOm := h2.2.1
  unfold maxLen at hOm
  clear h h2
  go_enter Try.func5, Try.ntmps5
  go_wp2_with fail
  refine (awake03 w).mono ?_
  rintro e w1 ⟨rfl, f1⟩
  have FW : Hid (Fresh w w1) := f1
  replace H := Lib.hid (H.out.touch f1 (fun _ _ _ h => h))
  replace H2 := Lib.hid (H2.out.touch f1 (fun _ _ _ h => h))
  clear f1
  simp only
  go_wp2_with fail
  refine (few_any A c l w1 H.out).mono ?_
  rintro e w2 ⟨B, d1, D, f1, N, rfl, MB, MD, hr, hm, hlN⟩
  have RB1 : Hid (Rd spanE w2 B d1 (Sp.few l 12)) := MB.sl.rd
  have RN : Hid (Rd intE w2 D f1 N) := MD.sl.rd
  replace FW := Lib.hid (FW.out.trans MB.fresh (fun _ _ h => h))
  replace H2 := Lib.hid (H2.out.touch MB.fresh (fun _ _ _ h => h))
  have HF1 := Lib.hid (Sp.few_small l 12)
  have HR1 := Lib.hid (And.intro hr hm)
  have hlF := few_len l
  have HFB := Lib.hid (Sp.few_bd l 12)
  generalize Sp.few l 12 = F at *
  clear MB MD hr hm H
  have HNI : Hid (∀ j, j < F.length → Sp.near (F.getD j (0, 0)) = F.getD j (0, 0) ∧ ∀ n, Sp.In (F.getD j (0, 0)) n → Sp.mem F n) := fun j hj => by
    have hin := Sp.getD_mem hj
    have hs := HF1.out _ hin
    exact ⟨Sp.near_id _ hs.1 hs.2.1 hs.2.2.1 hs.2.2.2, fun n hn => ⟨_, hin, hn⟩⟩
  clear HF1
  have R0 : Hid (Rd spanE w2 none 0 []) := Rd.nil _ _
  have F0 : Hid (Fresh w2 w2) := Touch.refl _ _
  simp only
  go_upto_block 0 with (fail)
  go_cut [8] (fun s8 wx => ∃ (C : Option Addr) (g : Nat) (S : List (Int × Int)), s8 = .slice C S.length g ∧ Hid (Sp.Good S) ∧ Hid (∀ n, Sp.mem S n → Sp.mem F n) ∧ Hid (Rd spanE wx C g S) ∧ Hid (Fresh w2 wx))
  case first =>
    go_wp2_with fail
    go_loopw [8, 9] (fun s8 i wr => ∃ (k : Nat) (C : Option Addr) (g : Nat) (S : List (Int × Int)), k ≤ 30 ∧ k ≤ O.length ∧ i = .int .i64 k ∧ s8 = .slice C S.length g ∧ Hid (Sp.Good S) ∧ Hid (∀ n, Sp.mem S n → Sp.mem F n) ∧ Hid (Rd spanE wr C g S) ∧ Hid (Fresh w2 wr)) (fun _ i _ => 30 - (intOf i).toNat)
    case atStart => exact ⟨0, none, 0, [], by omega, by omega, rfl, rfl, Sp.Good.nil, (fun n h => absurd h (Sp.mem_nil n)), R0, F0⟩
    case round =>
      clear R0 F0
      obtain ⟨k, C, g, S, hk30, hkO, rfl, rfl, HG, HSF, RS, HFr⟩ := hrel
      have hSl := HG.out.short (fun n hn => HFB.out n (HSF.out n hn))
      rcases (show (k < O.length ∧ k < 30 ∧ 0 < F.length) ∨ ¬ (k < O.length ∧ k < 30 ∧ 0 < F.length) by omega) with ⟨h1, h2, h3⟩ | hend
      · have hk1 : (k : Int) < (O.length : Int) := by omega
        have hk2 : (k : Int) < 30 := by omega
        have hk3 : (0 : Int) < (F.length : Int) := by omega
        have hd1 : decide ((k : Int) < (O.length : Int)) = true := decide_eq_true hk1
        have hd2 : decide ((k : Int) < 30) = true := decide_eq_true hk2
        have hd3 : decide ((0 : Int) < (F.length : Int)) = true := decide_eq_true hk3
        have hk0 : (0 : Int) ≤ (k : Int) := by omega
        obtain ⟨go, oo, rfl, _, c0⟩ := (H2.out.touch HFr.out (fun _ _ _ h => h)).int_at k h1
        generalize O.getD k 0 = x at *
        obtain ⟨r, hr⟩ : ∃ r : Int, x.tmod (F.length : Int) = r := ⟨_, rfl⟩
        have hrb : -(F.length : Int) < r ∧ r < (F.length : Int) := by
          rw [← hr]
          have := Int.tmod_lt_of_pos x hk3
          have h4 := Int.tmod_lt_of_pos (-x) hk3
          rw [Int.neg_tmod] at h4
          omega
        obtain ⟨j, hj⟩ : ∃ j : Nat, (r + (F.length : Int)).tmod (F.length : Int) = (j : Int) := ⟨((r + (F.length : Int)).tmod (F.length : Int)).toNat, by have := Int.tmod_nonneg (F.length : Int) (show 0 ≤ r + (F.length : Int) by omega); omega⟩
        have hjF : j < F.length := by
          have := Int.tmod_lt_of_pos (r + (F.length : Int)) hk3
          omega
        have hji : (j : Int) < (F.length : Int) := by omega
        have hj0 : (0 : Int) ≤ (j : Int) := by omega
        obtain ⟨gf, of, rfl, _, p0, p1⟩ := (RB1.out.touch HFr.out (fun _ _ _ h => h)).span_at j hjF
        have HN2 := Lib.hid (HNI.out j hjF)
        generalize F.getD j (0, 0) = y at *
        obtain ⟨u, v⟩ := y
        simp only at p0 p1
        go_wp2_with fail
        refine (add_any C g S (u, v) wr RS.out HG.out (by omega)).mono ?_
        rintro e3 w3 ⟨P, p, R, rfl, MR, hgR, hR⟩
        have RR : Hid (Rd spanE w3 P p R) := MR.sl.rd
        have FR : Hid (Fresh w2 w3) := HFr.out.trans MR.fresh (fun _ _ h => h)
        have HGR := Lib.hid hgR
        have HRF : Hid (∀ n, Sp.mem R n → Sp.mem F n) := fun n hn => by
          rw [hR, HN2.out.1] at hn
          exact hn.elim (HSF.out n) (HN2.out.2 n)
        clear MR hgR hR RS HFr HG HSF p0 p1 c0 HN2
        simp only
        go_wp2
        go_roundw
        case rel => exact ⟨k + 1, P, p, R, by omega, by omega, by go_num, rfl, HGR, HRF, RR, FR⟩
        case measure => simp [intOf]; omega
      · rcases (show ¬ (k : Int) < (O.length : Int) ∨ ((k : Int) < (O.length : Int) ∧ ¬ (k : Int) < 30) ∨ ((k : Int) < (O.length : Int) ∧ (k : Int) < 30 ∧ ¬ (0 : Int) < (F.length : Int)) by omega) with h1 | ⟨h1, h2⟩ | ⟨h1, h2, h3⟩
        · have hd1 : decide ((k : Int) < (O.length : Int)) = false := decide_eq_false h1
          clear hend
          go_wp2
          go_meet
          case rel => exact ⟨C, g, S, rfl, HG, HSF, RS, HFr⟩
        · have hd1 : decide ((k : Int) < (O.length : Int)) = true := decide_eq_true h1
          have hd2 : decide ((k : Int) < 30) = false := decide_eq_false h2
          clear hend
          go_wp2
          go_meet
          case rel => exact ⟨C, g, S, rfl, HG, HSF, RS, HFr⟩
        · have hd1 : decide ((k : Int) < (O.length : Int)) = true := decide_eq_true h1
          have hd2 : decide ((k : Int) < 30) = true := decide_eq_true h2
          have hd3 : decide ((0 : Int) < (F.length : Int)) = false := decide_eq_false h3
          clear hend
          go_wp2
          go_meet
          case rel => exact ⟨C, g, S, rfl, HG, HSF, RS, HFr⟩
  case rest =>
    clear R0 F0 H2
    obtain ⟨C0, g0, S0, rfl, HG0, HSF0, RS0, HF0⟩ := hcut
    have HZ : Hid (∀ j, F.length ≤ j + 0 → j < F.length → ∀ y, Sp.In (F.getD j (0, 0)) y → Sp.mem S0 y) := fun j h1 h2 => by omega
    go_wp2_with fail
    go_loopw [8, 54] (fun s8 i wx => ∃ (k : Nat) (C : Option Addr) (g : Nat) (S : List (Int × Int)), k ≤ F.length ∧ i = .int .i64 k ∧ s8 = .slice C S.length g ∧ Hid (Sp.Good S) ∧ Hid (∀ n, Sp.mem S n → Sp.mem F n) ∧ Hid (∀ j, F.length ≤ j + k → j < F.length → ∀ y, Sp.In (F.getD j (0, 0)) y → Sp.mem S y) ∧ Hid (Rd spanE wx C g S) ∧ Hid (Fresh w2 wx)) (fun _ i _ => F.length - (intOf i).toNat)
    case atStart => exact ⟨0, C0, g0, S0, by omega, rfl, rfl, HG0, HSF0, HZ, RS0, HF0⟩
    case round =>
      clear HG0 HSF0 RS0 HF0 HZ
      obtain ⟨k, C, g, S, hkF, rfl, rfl, HG, HSF, HAll, RS, HFr⟩ := hrel
      have hSl := HG.out.short (fun n hn => HFB.out n (HSF.out n hn))
      by_cases hk : k < F.length
      · have hk1 : (k : Int) < (F.length : Int) := by omega
        obtain ⟨j, hj⟩ : ∃ j : Nat, (F.length : Int) - 1 - (k : Int) = (j : Int) := ⟨F.length - 1 - k, by omega⟩
        have hjF : j < F.length := by omega
        have hji : (j : Int) < (F.length : Int) := by omega
        have hj0 : (0 : Int) ≤ (j : Int) := by omega
        obtain ⟨gf, of, rfl, _, p0, p1⟩ := (RB1.out.touch HFr.out (fun _ _ _ h => h)).span_at j hjF
        have HN2 := Lib.hid (HNI.out j hjF)
        have HJ : Hid (∀ i, F.length ≤ i + (k + 1) → i < F.length → F.length ≤ i + k ∨ F.getD i (0, 0) = F.getD j (0, 0)) := fun i h1 h2 => by
          rcases (show F.length ≤ i + k ∨ i = j by omega) with h | rfl
          · exact .inl h
          · exact .inr rfl
        obtain ⟨y, hy⟩ : ∃ y, y = F.getD j (0, 0) := ⟨_, rfl⟩
        rw [← hy] at HN2 HJ p0 p1
        clear hy
        obtain ⟨u, v⟩ := y
        simp only at p0 p1
        go_wp2_with fail
        refine (add_any C g S (u, v) wr RS.out HG.out (by omega)).mono ?_
        rintro e3 w3 ⟨P, p, R, rfl, MR, hgR, hR⟩
        have RR : Hid (Rd spanE w3 P p R) := MR.sl.rd
        have FR : Hid (Fresh w2 w3) := HFr.out.trans MR.fresh (fun _ _ h => h)
        have HGR := Lib.hid hgR
        have HRF : Hid (∀ n, Sp.mem R n → Sp.mem F n) := fun n hn => by
          rw [hR, HN2.out.1] at hn
          exact hn.elim (HSF.out n) (HN2.out.2 n)
        have HRA : Hid (∀ i, F.length ≤ i + (k + 1) → i < F.length → ∀ y, Sp.In (F.getD i (0, 0)) y → Sp.mem R y) := fun i h1 h2 y hy => by
          rw [hR, HN2.out.1]
          rcases HJ.out i h1 h2 with h | h
          · exact .inl (HAll.out i h h2 y hy)
          · rw [h] at hy
            exact .inr hy
        clear MR hgR hR RS HFr HG HSF p0 p1 HN2 HJ HAll
        simp only
        go_wp2
        go_roundw
        case rel => exact ⟨k + 1, P, p, R, by omega, by go_num, rfl, HGR, HRF, HRA, RR, FR⟩
        case measure => simp [intOf]; omega
      · have hkk : k = F.length := by omega
        have HAE : Hid (∀ n, Sp.mem F n ↔ Sp.mem S n) := fun n => ⟨fun h => by
          obtain ⟨i, hi, e⟩ := Sp.mem_getD h
          exact HAll.out i (by omega) hi n e, HSF.out n⟩
        have hk' : ¬ ((k : Int) < (F.length : Int)) := by omega
        have HIN : Hid (Sp.IsNums S N) := ⟨HG.out, HR1.out.1, fun n => (HR1.out.2 n).trans (HAE.out n)⟩
        have HT0 : Hid (∀ n, Sp.mem S n → Sp.mem S n ∧ ∀ j, j < 0 → ¬ Sp.In (F.getD j (0, 0)) n) := fun n h => ⟨h, fun j hj => absurd hj (Nat.not_lt_zero _)⟩
        clear hk HAll hkk
        go_wp2_with fail
        go_loopw [11, 70] (fun s11 i wx => ∃ (k : Nat) (C2 : Option Addr) (g2 : Nat) (T : List (Int × Int)), k ≤ F.length ∧ i = .int .i64 k ∧ s11 = .slice C2 T.length g2 ∧ Hid (Sp.Good T) ∧ Hid (∀ n, Sp.mem T n → Sp.mem S n ∧ ∀ j, j < k → ¬ Sp.In (F.getD j (0, 0)) n) ∧ Hid (Rd spanE wx C2 g2 T) ∧ Hid (Rd spanE wx C g S) ∧ Hid (Fresh w2 wx)) (fun _ i _ => F.length - (intOf i).toNat)
        case atStart => exact ⟨0, C, g, S, by omega, rfl, rfl, HG, HT0, RS, RS, HFr⟩
        case round =>
          clear HT0 RS HFr
          obtain ⟨k, C2, g2, T, hkF, rfl, rfl, HGT, HTS, RT, RS, HFr⟩ := hrel
          have hTl := HGT.out.short (fun n hn => HFB.out n (HSF.out n (HTS.out n hn).1))
          by_cases hk : k < F.length
          · have hk1 : (k : Int) < (F.length : Int) := by omega
            have hk0 : (0 : Int) ≤ (k : Int) := by omega
            obtain ⟨gf, of, rfl, _, p0, p1⟩ := (RB1.out.touch HFr.out (fun _ _ _ h => h)).span_at k hk
            have HN2 := Lib.hid (HNI.out k hk)
            obtain ⟨y, hy⟩ : ∃ y, y = F.getD k (0, 0) := ⟨_, rfl⟩
            have HY := Lib.hid hy
            rw [← hy] at HN2 p0 p1
            clear hy
            obtain ⟨u, v⟩ := y
            simp only at p0 p1
            go_wp2_with fail
            have FA : Hid (Fresh wr (wr.alloc (.cells #[.int .i64 u, .int .i64 v] 45))) := (Touch.refl _ wr).alloc _
            replace RT := Lib.hid (RT.out.touch FA.out (fun _ _ _ h => h))
            replace RS := Lib.hid (RS.out.touch FA.out (fun _ _ _ h => h))
            replace HFr := Lib.hid (HFr.out.trans FA.out (fun _ _ h => h))
            clear FA p0 p1
            generalize wr.alloc (.cells #[.int .i64 u, .int .i64 v] 45) = w5 at *
            refine (drop_any C2 g2 T (u, v) w5 RT.out HGT.out (by omega)).mono ?_
            rintro e3 w3 ⟨P, p, R, rfl, MR, hgR, hR⟩
            have RR : Hid (Rd spanE w3 P p R) := MR.sl.rd
            have FR : Hid (Fresh w2 w3) := HFr.out.trans MR.fresh (fun _ _ h => h)
            replace RS := Lib.hid (RS.out.touch MR.fresh (fun _ _ _ h => h))
            have HGR := Lib.hid hgR
            have HRS : Hid (∀ n, Sp.mem R n → Sp.mem S n ∧ ∀ j, j < k + 1 → ¬ Sp.In (F.getD j (0, 0)) n) := fun n hn => by
              rw [hR, HN2.out.1] at hn
              refine ⟨(HTS.out n hn.1).1, fun j hj => ?_⟩
              rcases (show j < k ∨ j = k by omega) with h | rfl
              · exact (HTS.out n hn.1).2 j h
              · rw [← HY.out]
                exact hn.2
            clear MR hgR hR RT HFr HGT HTS HN2 HY
            simp only
            go_wp2
            go_roundw
            case rel => exact ⟨k + 1, P, p, R, by omega, by go_num, rfl, HGR, HRS, RR, RS, FR⟩
            case measure => simp [intOf]; omega
          · have hkk : k = F.length := by omega
            obtain rfl : T = [] := HGT.out.1.empty fun n hn => by
              obtain ⟨h1, h2⟩ := HTS.out n hn
              obtain ⟨i, hi, e⟩ := Sp.mem_getD (HSF.out n h1)
              exact h2 i (by omega) e
            have hk' : ¬ ((k : Int) < (F.length : Int)) := by omega
            have RN2 := Lib.hid (RN.out.touch HFr.out (fun _ _ _ h => h))
            clear hk HTS HGT hkk RT
            simp only [List.length_nil]
            go_wp2_with fail
            refine (is_true C g S D f1 N wr RS.out RN2.out HIN.out (by omega)).mono ?_
            rintro e9 w9 ⟨rfl, f9⟩
            have F9 := Lib.hid ((FW.out.trans HFr.out (fun _ _ h => h)).trans f9 (fun _ _ h => h))
            clear f9
            simp only
            go_wp2
            go_ret
            exact ⟨rfl, F9.out.below (Nat.le_refl _) (fun _ _ h => h)⟩

theorem spanOrder.walk (v v2 : Value) (w : World) {H : Type} {enc : TypeId × Value → H} {base : Nat} {d d2 : DataW H} {p p2 : List MemPlace} (hv : Value.okWide Try.prog w .any base 23 v) (h : DataW.Trod enc Try.prog w 0 (fun _ => true) true 23 v d p) (hv2 : Value.okWide Try.prog w .any base 25 v2) (h2 : DataW.Trod enc Try.prog w 0 (fun _ => true) true 25 v2 d2 p2) :
    Calls Try.prog 5 #[v, v2] w fun e w' => e = .returned (.bool true) ∧ Below w.heap.size w w' := by
  obtain ⟨A, c, l, rfl, hr⟩ := open_spans hv h
  obtain ⟨A2, c2, O, rfl, hr2, _⟩ := open_rd_int hv2 h2
  exact spanOrder.core A c l A2 c2 O w hr hr2
end Go.Proofs.Ytlfapnapkdnldaa

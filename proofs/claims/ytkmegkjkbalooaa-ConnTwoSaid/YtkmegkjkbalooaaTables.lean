/-
  rules: the two tables, Of, May.
-/
import Derived.Test.YtkmegkjkbalooaaRules
import Derived.Deep.DeepCutAuto
import Derived.Deep.CutBlock
namespace Go.Proofs.Ytkmegkjkbalooaa
open Go.RowKit

theorem row_lit {b : Nat} {m : Ru.Tbl} {s x : Int} {ks : List Int} {cs : Array Value} {w w0 : World} {g n : Nat} (hm : MapAt placeK w b (Ru.lift m)) (ht : Touch (fun k => w0.heap.size ≤ k) w0 w) (hb : w0.heap.size ≤ b)
    (hcs : cs.toList = intE.all ks) (hg : w.heap.size = g) (hn : n = ks.length) (hs : ks.length ≤ 100) :
    Calls Try.prog 63 #[.map (some b), .int .i64 s, .int .i64 x, .slice (some ⟨g, 0, none⟩) n n] (w.alloc (.cells cs 3)) fun e w' => e = .returned (.tuple #[]) ∧ MapAt placeK w' b (Ru.lift (Ru.row m s x ks)) ∧ Touch (fun k => w0.heap.size ≤ k) w0 w' := by
  subst hn
  refine (row_any b _ _ m s x ks _ (hm.alloc _) (Sl.rd (Sl.lit intE w g hg cs ks hcs _ rfl (by simp only [maxLen]; omega)))).mono ?_
  rintro e w' ⟨he, hm', ht'⟩
  refine ⟨he, hm', (ht.alloc _).trans ht' ?_⟩
  intro k hk e
  have : k = b := e
  omega

set_option maxHeartbeats 4000000 in
theorem table_any (w : World) :
    Calls Try.prog 44 #[] w fun e w' => ∃ b, e = .returned (.map (some b)) ∧ MapAt placeK w' b (Ru.lift Ru.tbl) ∧ Fresh w w' := by
  have hmm := @run_makeMap Try.prog
  go_enter Try.func44, Try.ntmps44
  go_wp2_with fail
  go_loopw [2] (fun i wr => ∃ k : Nat, k ≤ 10 ∧ i = .int .i64 ((k : Int) + 1) ∧ MapAt placeK wr w.heap.size (Ru.lift (Ru.tblTo k)) ∧ Touch (fun k => w.heap.size ≤ k) w wr) (fun i _ => 11 - (intOf i).toNat)
  case atStart => exact ⟨0, by omega, rfl, MapAt.made placeK w, (Touch.refl _ _).alloc _⟩
  case round =>
    obtain ⟨k, hk, rfl, hm, ht⟩ := hrel
    by_cases hlt : k < 10
    · have HS : Hid (Ru.tblTo (k + 1) = Ru.tblS (Ru.tblTo k) ((k : Int) + 1)) := rfl
      generalize Ru.tblTo k = m at *
      go_wp2_with fail
      refine (row_lit (ks := [1, 13, 14]) hm ht (Nat.le_refl _) rfl rfl rfl (by decide)).mono ?_
      rintro e wn ⟨rfl, hm1, t1⟩
      replace hm := hm1
      replace ht := t1
      clear hm1 t1
      by_cases h2 : (k : Int) + 1 = 2
      · have hb2 : ((k : Int) + 1 != 2) = false := by simp [h2]
        have HX : Hid (Ru.tblS m ((k : Int) + 1) = Ru.row m ((k : Int) + 1) 1 [1, 13, 14]) := by
          show _ = _; unfold Ru.tblS; dsimp only; rw [if_pos h2, if_neg (by omega), if_neg (by omega)]
        have H2 := Lib.hid h2
        have hlt5 : (k : Int) + 1 < 5 := by omega
        clear h2
        have HM := Lib.hid hm
        have HT := Lib.hid ht
        clear hm ht
        go_wp2
        go_roundw
        case rel => exact ⟨k + 1, by omega, by go_num, by rw [HS.out, HX.out]; exact HM.out, HT.out⟩
        case measure => simp [intOf]; omega
      · have hb2 : ((k : Int) + 1 != 2) = true := by simp [h2]
        go_wp2_with fail
        refine (row_lit (ks := [3]) hm ht (Nat.le_refl _) rfl rfl rfl (by decide)).mono ?_
        rintro e wn ⟨rfl, hm1, t1⟩
        replace hm := hm1
        replace ht := t1
        clear hm1 t1
        by_cases h5 : 5 ≤ (k : Int) + 1
        · go_wp2_with fail
          refine (row_lit (ks := [5]) hm ht (Nat.le_refl _) rfl rfl rfl (by decide)).mono ?_
          rintro e wn ⟨rfl, hm1, t1⟩
          replace hm := hm1
          replace ht := t1
          clear hm1 t1
          go_wp2_with fail
          refine (row_lit (ks := [4, 7]) hm ht (Nat.le_refl _) rfl rfl rfl (by decide)).mono ?_
          rintro e wn ⟨rfl, hm1, t1⟩
          replace hm := hm1
          replace ht := t1
          clear hm1 t1
          by_cases h7 : 7 ≤ (k : Int) + 1
          · go_wp2_with fail
            refine (row_lit (ks := [9]) hm ht (Nat.le_refl _) rfl rfl rfl (by decide)).mono ?_
            rintro e wn ⟨rfl, hm1, t1⟩
            have HX : Hid (Ru.tblS m ((k : Int) + 1) = Ru.row (Ru.row (Ru.row (Ru.row (Ru.row m ((k : Int) + 1) 1 [1, 13, 14]) ((k : Int) + 1) 1 [3]) ((k : Int) + 1) 1 [5]) ((k : Int) + 1) 4 [4, 7]) ((k : Int) + 1) 1 [9]) := by
              show _ = _; unfold Ru.tblS; dsimp only; rw [if_neg h2, if_pos h5, if_pos h7]
            have HM := Lib.hid hm1
            have HT := Lib.hid t1
            clear hm ht hm1 t1
            go_wp2
            go_roundw
            case rel => exact ⟨k + 1, by omega, by go_num, by rw [HS.out, HX.out]; exact HM.out, HT.out⟩
            case measure => simp [intOf]; omega
          · have HX : Hid (Ru.tblS m ((k : Int) + 1) = Ru.row (Ru.row (Ru.row (Ru.row m ((k : Int) + 1) 1 [1, 13, 14]) ((k : Int) + 1) 1 [3]) ((k : Int) + 1) 1 [5]) ((k : Int) + 1) 4 [4, 7]) := by
              show _ = _; unfold Ru.tblS; dsimp only; rw [if_neg h2, if_pos h5, if_neg h7]
            have HM := Lib.hid hm
            have HT := Lib.hid ht
            clear hm ht
            go_wp2
            go_roundw
            case rel => exact ⟨k + 1, by omega, by go_num, by rw [HS.out, HX.out]; exact HM.out, HT.out⟩
            case measure => simp [intOf]; omega
        · have h7 : ¬ 7 ≤ (k : Int) + 1 := by omega
          have HX : Hid (Ru.tblS m ((k : Int) + 1) = Ru.row (Ru.row m ((k : Int) + 1) 1 [1, 13, 14]) ((k : Int) + 1) 1 [3]) := by
            show _ = _; unfold Ru.tblS; dsimp only; rw [if_neg h2, if_neg h5, if_neg h7]
          have HM := Lib.hid hm
          have HT := Lib.hid ht
          clear hm ht
          go_wp2
          go_roundw
          case rel => exact ⟨k + 1, by omega, by go_num, by rw [HS.out, HX.out]; exact HM.out, HT.out⟩
          case measure => simp [intOf]; omega
    · have e10 : k = 10 := by omega
      subst e10
      generalize hT0 : Ru.tblTo 10 = m0 at *
      have HT0 := Lib.hid hT0
      clear hT0
      go_wp2_with fail
      refine (row_lit (ks := [2, 5, 6, 8, 9, 10, 11, 12, 15]) hm ht (Nat.le_refl _) rfl rfl rfl (by decide)).mono ?_
      rintro e wn ⟨rfl, hm1, t1⟩
      replace hm := hm1
      replace ht := t1
      clear hm1 t1
      go_wp2_with fail
      refine (row_lit (ks := [7]) hm ht (Nat.le_refl _) rfl rfl rfl (by decide)).mono ?_
      rintro e wn ⟨rfl, hm1, t1⟩
      replace hm := hm1
      replace ht := t1
      clear hm1 t1
      go_wp2_with fail
      refine (row_lit (ks := [2, 7]) hm ht (Nat.le_refl _) rfl rfl rfl (by decide)).mono ?_
      rintro e wn ⟨rfl, hm1, t1⟩
      replace hm := hm1
      replace ht := t1
      clear hm1 t1
      go_wp2_with fail
      refine (row_lit (ks := [2, 4, 5, 6, 7, 8, 9, 10, 11, 12, 15]) hm ht (Nat.le_refl _) rfl rfl rfl (by decide)).mono ?_
      rintro e wn ⟨rfl, hm1, t1⟩
      replace hm := hm1
      replace ht := t1
      clear hm1 t1
      go_wp2_with fail
      refine (row_lit (ks := [4, 7]) hm ht (Nat.le_refl _) rfl rfl rfl (by decide)).mono ?_
      rintro e wn ⟨rfl, hm1, t1⟩
      replace hm := hm1
      replace ht := t1
      clear hm1 t1
      go_wp2_with fail
      refine (row_lit (ks := [6]) hm ht (Nat.le_refl _) rfl rfl rfl (by decide)).mono ?_
      rintro e wn ⟨rfl, hm1, t1⟩
      replace hm := hm1
      replace ht := t1
      clear hm1 t1
      go_wp2_with fail
      refine (row_lit (ks := [15]) hm ht (Nat.le_refl _) rfl rfl rfl (by decide)).mono ?_
      rintro e wn ⟨rfl, hm1, t1⟩
      replace hm := hm1
      replace ht := t1
      clear hm1 t1
      go_wp2_with fail
      refine (row_lit (ks := [8, 10, 11, 12]) hm ht (Nat.le_refl _) rfl rfl rfl (by decide)).mono ?_
      rintro e wn ⟨rfl, hm1, t1⟩
      have HF : Hid (MapAt placeK wn w.heap.size (Ru.lift Ru.tbl) ∧ Fresh w wn) := by
        refine ⟨?_, t1.mono (fun k hk h => by omega)⟩
        unfold Ru.tbl
        rw [HT0.out]
        exact hm1
      clear hm ht hm1 t1
      go_wp2
      go_ret
      exact ⟨_, rfl, HF.out.1, HF.out.2⟩

set_option maxHeartbeats 4000000 in
theorem requests_any (w : World) :
    Calls Try.prog 40 #[] w fun e w' => ∃ b, e = .returned (.map (some b)) ∧ MapAt placeK w' b (Ru.lift Ru.req) ∧ Fresh w w' := by
  have hmm := @run_makeMap Try.prog
  go_enter Try.func40, Try.ntmps40
  go_wp2_with fail
  go_loopw [2] (fun i wr => ∃ k : Nat, k ≤ 10 ∧ i = .int .i64 ((k : Int) + 1) ∧ MapAt placeK wr w.heap.size (Ru.lift (Ru.reqTo k)) ∧ Touch (fun k => w.heap.size ≤ k) w wr) (fun i _ => 11 - (intOf i).toNat)
  case atStart => exact ⟨0, by omega, rfl, MapAt.made placeK w, (Touch.refl _ _).alloc _⟩
  case round =>
    obtain ⟨k, hk, rfl, hm, ht⟩ := hrel
    by_cases hlt : k < 10
    · have HS : Hid (Ru.reqTo (k + 1) = Ru.reqS (Ru.reqTo k) ((k : Int) + 1)) := rfl
      generalize Ru.reqTo k = m at *
      go_wp2_with fail
      refine (row_lit (ks := [8, 9, 10, 11]) hm ht (Nat.le_refl _) rfl rfl rfl (by decide)).mono ?_
      rintro e wn ⟨rfl, hm1, t1⟩
      replace hm := hm1
      replace ht := t1
      clear hm1 t1
      by_cases h1 : (k : Int) + 1 = 1
      · have hb1 : ((k : Int) + 1 != 1) = false := by simp [h1]
        have HX : Hid (Ru.reqS m ((k : Int) + 1) = Ru.row m ((k : Int) + 1) 1 [8, 9, 10, 11]) := by
          show _ = _; unfold Ru.reqS; dsimp only; rw [if_pos (.inl h1)]
        clear h1
        have HM := Lib.hid hm
        have HT := Lib.hid ht
        clear hm ht
        go_wp2
        go_roundw
        case rel => exact ⟨k + 1, by omega, by go_num, by rw [HS.out, HX.out]; exact HM.out, HT.out⟩
        case measure => simp [intOf]; omega
      · have hb1 : ((k : Int) + 1 != 1) = true := by rw [bne_iff_ne]; exact h1
        by_cases h4 : (k : Int) + 1 = 4
        · have hb4 : ((k : Int) + 1 != 4) = false := by simp [h4]
          have HX : Hid (Ru.reqS m ((k : Int) + 1) = Ru.row m ((k : Int) + 1) 1 [8, 9, 10, 11]) := by
            show _ = _; unfold Ru.reqS; dsimp only; rw [if_pos (.inr h4)]
          clear h1 h4
          have HM := Lib.hid hm
          have HT := Lib.hid ht
          clear hm ht
          go_wp2
          go_roundw
          case rel => exact ⟨k + 1, by omega, by go_num, by rw [HS.out, HX.out]; exact HM.out, HT.out⟩
          case measure => simp [intOf]; omega
        · have hb4 : ((k : Int) + 1 != 4) = true := by rw [bne_iff_ne]; exact h4
          have HX : Hid (Ru.reqS m ((k : Int) + 1) = Ru.row (Ru.row m ((k : Int) + 1) 1 [8, 9, 10, 11]) ((k : Int) + 1) 1 [3]) := by
            show _ = _; unfold Ru.reqS; dsimp only; rw [if_neg (by omega)]
          clear h1 h4
          go_wp2_with fail
          refine (row_lit (ks := [3]) hm ht (Nat.le_refl _) rfl rfl rfl (by decide)).mono ?_
          rintro e wn ⟨rfl, hm1, t1⟩
          have HM := Lib.hid hm1
          have HT := Lib.hid t1
          clear hm ht hm1 t1
          go_wp2
          go_roundw
          case rel => exact ⟨k + 1, by omega, by go_num, by rw [HS.out, HX.out]; exact HM.out, HT.out⟩
          case measure => simp [intOf]; omega
    · have e10 : k = 10 := by omega
      subst e10
      generalize hT0 : Ru.reqTo 10 = m0 at *
      have HT0 := Lib.hid hT0
      clear hT0
      go_wp2_with fail
      refine (row_lit (ks := [1]) hm ht (Nat.le_refl _) rfl rfl rfl (by decide)).mono ?_
      rintro e wn ⟨rfl, hm1, t1⟩
      replace hm := hm1
      replace ht := t1
      clear hm1 t1
      go_wp2_with fail
      refine (row_lit (ks := [1]) hm ht (Nat.le_refl _) rfl rfl rfl (by decide)).mono ?_
      rintro e wn ⟨rfl, hm1, t1⟩
      replace hm := hm1
      replace ht := t1
      clear hm1 t1
      go_wp2_with fail
      refine (row_lit (ks := [2]) hm ht (Nat.le_refl _) rfl rfl rfl (by decide)).mono ?_
      rintro e wn ⟨rfl, hm1, t1⟩
      replace hm := hm1
      replace ht := t1
      clear hm1 t1
      go_wp2_with fail
      refine (row_lit (ks := [5]) hm ht (Nat.le_refl _) rfl rfl rfl (by decide)).mono ?_
      rintro e wn ⟨rfl, hm1, t1⟩
      replace hm := hm1
      replace ht := t1
      clear hm1 t1
      go_wp2_with fail
      refine (row_lit (ks := [4, 6]) hm ht (Nat.le_refl _) rfl rfl rfl (by decide)).mono ?_
      rintro e wn ⟨rfl, hm1, t1⟩
      replace hm := hm1
      replace ht := t1
      clear hm1 t1
      go_wp2_with fail
      refine (row_lit (ks := [6]) hm ht (Nat.le_refl _) rfl rfl rfl (by decide)).mono ?_
      rintro e wn ⟨rfl, hm1, t1⟩
      replace hm := hm1
      replace ht := t1
      clear hm1 t1
      go_wp2_with fail
      refine (row_lit (ks := [4, 7]) hm ht (Nat.le_refl _) rfl rfl rfl (by decide)).mono ?_
      rintro e wn ⟨rfl, hm1, t1⟩
      have HF : Hid (MapAt placeK wn w.heap.size (Ru.lift Ru.req) ∧ Fresh w wn) := by
        refine ⟨?_, t1.mono (fun k hk h => by omega)⟩
        unfold Ru.req
        rw [HT0.out]
        exact hm1
      clear hm ht hm1 t1
      go_wp2
      go_ret
      exact ⟨_, rfl, HF.out.1, HF.out.2⟩

theorem zeroInt (w : World) : (zeroValue 3).run Try.prog w = .ok (.int .i64 0) w := by kernel_rfl

theorem of_any (s k : Int) (w : World) :
    Calls Try.prog 28 #[.int .i64 s, .int .i64 k] w fun e w' => e = .returned (.int .i64 (Ru.of_ s k)) ∧ Fresh w w' := by
  go_enter Try.func28, Try.ntmps28
  go_wp2_with fail
  refine (table_any w).mono ?_
  rintro e w1 ⟨b, rfl, hm, ht⟩
  have HT := Lib.hid ht
  have HM := Lib.hid hm
  have HV : Hid ((mget (Ru.lift Ru.tbl) (s, k)).getD (.int .i64 0) = .int .i64 (Ru.of_ s k)) := Ru.lift_get _ _
  clear ht hm
  go_wp2_with (refine wpList_lookM rfl rfl (k := (s, k)) rfl rfl HM.out Try.underlying93 (zeroInt _) ?_; rw [if_neg (by decide), HV.out])
  go_ret
  exact ⟨rfl, HT.out⟩

theorem may_any (s k : Int) (w : World) :
    Calls Try.prog 24 #[.int .i64 s, .int .i64 k] w fun e w' => e = .returned (.bool (Ru.may s k)) ∧ Fresh w w' := by
  go_enter Try.func24, Try.ntmps24
  go_wp2_with fail
  refine (requests_any w).mono ?_
  rintro e w1 ⟨b, rfl, hm, ht⟩
  have HT := Lib.hid ht
  have HM := Lib.hid hm
  have HV : Hid ((mget (Ru.lift Ru.req) (s, k)).getD (.int .i64 0) = .int .i64 ((mget Ru.req (s, k)).getD 0)) := Ru.lift_get _ _
  clear ht hm
  go_wp2_with (refine wpList_lookM rfl rfl (k := (s, k)) rfl rfl HM.out Try.underlying93 (zeroInt _) ?_; rw [if_neg (by decide), HV.out])
  go_ret
  exact ⟨rfl, HT.out⟩
end Go.Proofs.Ytkmegkjkbalooaa

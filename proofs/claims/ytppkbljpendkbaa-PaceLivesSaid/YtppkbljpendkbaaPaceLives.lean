/-
  polliwoglaw15.PaceLives: from a safe one on, who asks at once, and is answered at once, is never given up.
-/
import Derived.Test.YtppkbljpendkbaaLivesP
import Derived.Deep.DeepCutAuto
import Derived.Deep.CutBlock
namespace Go.Proofs.Ytppkbljpendkbaa
open Go.RowKit Go.ChangeShapes Go.WideShapes Go.ChangeAt

def boolE : El Bool := { e := 4, size := 1, bytes := 1, zero := .bool false, zel := false, enc := fun x => [.bool x], len := fun _ => rfl, one := by simp [Value.oneCell'], pos := by decide, zsize := rfl, zenc := rfl }
theorem Rd.bool_at {w : World} {A : Option Addr} {c : Nat} {l : List Bool} (h : Rd boolE w A c l) (k : Nat) (hk : k < l.length) : ∃ g o, A = some ⟨g, o, none⟩ ∧ g < w.heap.size ∧ w.cell? ⟨g, o + k, none⟩ = some (.bool (l.getD k false)) := by
  obtain ⟨g, o, hA, hg, hc⟩ := h.at_ k hk
  refine ⟨g, o, hA, hg, ?_⟩
  have := hc 0 (.bool (l.getD k false)) (by simp [boolE, List.getD, List.getElem?_eq_getElem hk])
  simpa [boolE] using this
theorem Pk.ok {w : World} {g : Nat} {l : List Int} {c0 c1 c2 c3 c4 : Int} (h : Pk w g l c0 c1 c2 c3 c4) : Lv.Ok l := ⟨h.1, h.2.1⟩

set_option maxRecDepth 100000 in
set_option maxHeartbeats 8000000 in
/-- The rounds in which each one that asks is answered. -/
theorem paceLives.core (A : Option Addr) (c : Nat) (L : List Int) (A1 : Option Addr) (ca1 : Nat) (L1 : List Bool) (A2 : Option Addr) (ca2 : Nat) (L2 : List (Int × Bool)) (w : World) (hr : Rd intE w A c L) (hr1 : Rd boolE w A1 ca1 L1) (hr2 : Rd act15E w A2 ca2 L2) :
    Calls Try.prog 6 #[.slice A L.length c, .slice A1 L1.length ca1, .slice A2 L2.length ca2] w fun e w' => e = .returned (.bool true) ∧ Below w.heap.size w w' := by
  have hlc := hr2.1
  have hcm := hr2.2.1
  have hlc1 := hr1.1
  have hcm1 := hr1.2.1
  unfold maxLen at hcm hcm1
  have HR := Lib.hid hr
  have HR1 := Lib.hid hr1
  have HR2 := Lib.hid hr2
  clear hr hr1 hr2
  go_enter Try.func6, Try.ntmps6
  go_wp2_with fail
  refine (awake15_any _).mono ?_
  rintro e w1 ⟨rfl, t1⟩
  go_wp2_with fail
  refine (right_any A c L w1 (HR.out.touch t1 (fun _ _ _ h => h))).mono ?_
  rintro e w2 ⟨g, c0, c1, c2, c3, c4, rfl, s2, hG, t2, hg2⟩
  have HG := Lib.hid hG
  have T2 := Lib.hid (t1.trans t2 (fun _ _ h => h))
  clear t1 t2 hG HR
  go_wp2_with fail
  refine (own15_any g c0 c1 c2 c3 c4 w2 s2).mono ?_
  rintro e w3 ⟨rfl, t3⟩
  have S3 := Lib.hid (s2.touch t3 (fun _ _ h => h))
  have T3 := Lib.hid (T2.out.trans t3 (fun _ _ h => h))
  clear s2 t3 T2
  go_wp2_with fail
  refine (new15_any c0 c1 c2 c3 c4 w3 HG.out).mono ?_
  rintro e w4 ⟨gp, rfl, h4, t4, hgp⟩
  have S4 := Lib.hid (S3.out.touch t4 (fun _ _ h => h))
  have T4 := Lib.hid (T3.out.trans t4 (fun _ _ h => h))
  have H4 := Lib.hid h4
  have hwp := T3.out.size
  have hgp4 : gp < w4.heap.size := Bk.lt h4
  clear t4 h4 T3 S3
  go_wp2_with fail
  refine (ref_new (some ⟨g, 0, none⟩) 5 w4).mono ?_
  rintro e w5 ⟨A5, d5, rfl, s5, t5⟩
  have HX : Hid (PxSt w (w5.alloc (.cells #[.slice (some ⟨g, 0, none⟩) 5 5, .slice A5 5 d5] 46)) gp w5.heap.size [0, 0, 0, 0, 0] c0 c1 c2 c3 c4 (some ⟨g, 0, none⟩) 5 A5 d5) := by
    have h5 := t5.size
    have h6 := (T4.out.trans t5 (fun _ _ h => h)).size
    exact ⟨Bk.alloc (Bk.touch H4.out t5 (fun h => h)) _, s5.alloc _, (S4.out.touch t5 (fun _ _ h => h)).alloc _, Blk.new w5 _ [.slice (some ⟨g, 0, none⟩) 5 5, .slice A5 5 d5], (T4.out.trans t5 (fun _ _ h => h)).alloc _, by omega, h6, by omega⟩
  clear s5 t5 S4 T4 H4 hgp4 hgp hwp hg2
  go_wp2_with fail
  obtain ⟨w6, hw6⟩ : ∃ w6, w6 = w5.alloc (.cells #[.slice (some ⟨g, 0, none⟩) 5 5, .slice A5 5 d5] 46) := ⟨_, rfl⟩
  rw [← hw6] at HX ⊢
  clear hw6
  generalize w5.heap.size = gx at *
  refine (begin_any gp _ c0 c1 c2 c3 c4 w6 HX.out.pk).mono ?_
  rintro e w7 ⟨rfl, p7, t7⟩
  have hb7 := t7.blk HX.out.blk HX.out.ne
  have HP7 := Lib.hid p7
  have HB7 := Lib.hid hb7
  have HL7 := Lib.hid (HX.out.left.touch t7 (HX.out.left.blk_ne HX.out.pk.2.2 (by decide)))
  have HK7 := Lib.hid (HX.out.ticks.touch t7 (HX.out.ticks.blk_ne HX.out.pk.2.2 (by decide)))
  have HF7 : Hid (Fresh w w7) := HX.out.fresh.trans t7 (fun k hk e => by have e2 : k = gp := e; have := HX.out.hp; omega)
  have x0 : w7.cell? ⟨gx, 0, none⟩ = some (.slice (some ⟨g, 0, none⟩) 5 5) := hb7.cell 0
  have x1 : w7.cell? ⟨gx, 1, none⟩ = some (.slice A5 5 d5) := hb7.cell 1
  have HT7 := Lib.hid t7
  clear p7 t7 hb7
  go_wp2_with fail
  refine (ref_begin (some ⟨g, 0, none⟩) A5 5 d5 [c0, c1, c2, c3, c4] [0, 0, 0, 0, 0] w7 rfl rfl HK7.out HL7.out).mono ?_
  rintro e w8 ⟨A8, d8, rfl, s8, t8⟩
  rw [rf_begin _ c0 c1 c2 c3 c4 rfl HG.out] at s8
  have HX8 := Lib.hid (HX.out.step (w' := w8) (A' := A8) (d' := d8) (Bk.touch HP7.out t8 (fun h => h)) s8 (HK7.out.touch t8 (fun _ _ h => h)) (HT7.out.trans t8 (fun _ _ h => absurd h (fun h => h))))
  have y0 : w8.cell? ⟨gx, 0, none⟩ = some (.slice (some ⟨g, 0, none⟩) 5 5) := (t8.blk HB7.out (fun h => h)).cell 0
  have y1 : w8.cell? ⟨gx, 1, none⟩ = some (.slice A5 5 d5) := (t8.blk HB7.out (fun h => h)).cell 1
  have f0 := (t8.blk HB7.out (fun h => h)).frozen 0
  have f1 := (t8.blk HB7.out (fun h => h)).frozen 1
  have H1 : Hid (Lv.One (Pc.begin_ [0, 0, 0, 0, 0] c1 c3)) := by unfold Hid; rw [Lv.begin_eq c0 c1 c2 c3 c4 _ _ _ _ _ HG.out]; exact .inl rfl
  clear s8 t8 HX HP7 HB7 HL7 HK7 HF7 HT7 x0 x1
  go_upto_block 0 with (fail)
  generalize ((w8.setCell ⟨gx, 0, none⟩ (.slice (some ⟨g, 0, none⟩) 5 5)).setCell ⟨gx, 1, none⟩ (.slice A8 5 d8)) = w9 at *
  generalize Pc.begin_ [0, 0, 0, 0, 0] c1 c3 = l9 at *
  clear y0 y1 f0 f1
  go_cut [] (fun wx => ∃ (l : List Int) (Ax : Option Addr) (dx : Nat), Hid (Lv.One l) ∧ Hid (PxSt w wx gp gx l c0 c1 c2 c3 c4 (some ⟨g, 0, none⟩) 5 Ax dx))
  case first =>
    go_wp2_with fail
    go_loopw [10] (fun i wr => ∃ (k : Nat) (l : List Int) (Ax : Option Addr) (dx : Nat), k ≤ 40 ∧ k ≤ L2.length ∧ i = .int .i64 k ∧ Hid (Lv.One l) ∧ Hid (PxSt w wr gp gx l c0 c1 c2 c3 c4 (some ⟨g, 0, none⟩) 5 Ax dx)) (fun i _ => 40 - (intOf i).toNat)
    case atStart => exact ⟨0, l9, A8, d8, by omega, by omega, rfl, H1, HX8⟩
    case round =>
      clear HX8 H1
      obtain ⟨k, l, Ax, dx, hk40, hkL, rfl, H1, HX⟩ := hrel
      rcases (show (k < L2.length ∧ k < 40) ∨ ¬ ((k : Int) < (L2.length : Int)) ∨ ((k : Int) < (L2.length : Int) ∧ ¬ ((k : Int) < 40)) by omega) with ⟨hkl, hk2⟩ | hend
      · as_aux_lemma =>
        have hk1 : (k : Int) < (L2.length : Int) := by omega
        have hk2 : (k : Int) < 40 := by omega
        have hd1 : decide ((k : Int) < (L2.length : Int)) = true := decide_eq_true hk1
        have hd2 : decide ((k : Int) < 40) = true := decide_eq_true hk2
        have hk0 : (0 : Int) ≤ (k : Int) := by omega
        obtain ⟨gA, oA, rfl, hgA, hc0, hc1⟩ := (HR2.out.touch HX.out.fresh (fun _ _ _ h => h)).act15_at k hkl
        generalize (L2.getD k (0, false)).1 = kd at *
        generalize (L2.getD k (0, false)).2 = idle at *
        have HXa := Lib.hid (HX.out.old ((Touch.refl _ wr).alloc (.cells #[.int .i64 kd, .bool idle] 51)))
        have HBa := Lib.hid (Blk.new wr 51 [.int .i64 kd, .bool idle])
        have hga : gp < wr.heap.size := Bk.lt HX.out.pk
        go_upto_region 14 with (fail)
        generalize wr.alloc (.cells #[.int .i64 kd, .bool idle] 51) = wa at *
        generalize wr.heap.size = ga at *
        have a0 : wa.cell? ⟨ga, 0, none⟩ = some (.int .i64 kd) := HBa.out.cell 0
        have a1 : wa.cell? ⟨ga, 1, none⟩ = some (.bool idle) := HBa.out.cell 1
        have x0 : wa.cell? ⟨gx, 0, none⟩ = some (.slice (some ⟨g, 0, none⟩) 5 5) := HXa.out.blk.cell 0
        have x1 : wa.cell? ⟨gx, 1, none⟩ = some (.slice Ax 5 dx) := HXa.out.blk.cell 1
        clear HX hc0 hc1 hgA
        rcases (show kd = 2 ∨ (¬ kd = 2 ∧ kd = 8) ∨ (¬ kd = 2 ∧ ¬ kd = 8) by omega) with rfl | ⟨h2, rfl⟩ | ⟨h2, h8⟩
        · go_wp2
          go_roundw
          case rel => exact ⟨k + 1, l, Ax, dx, by omega, by omega, by go_num, H1, HXa⟩
          case measure => simp [intOf]; omega
        · go_wp2
          go_roundw
          case rel => exact ⟨k + 1, l, Ax, dx, by omega, by omega, by go_num, H1, HXa⟩
          case measure => simp [intOf]; omega
        · have e2 : (kd == 2) = false := beq_eq_false_iff_ne.2 h2
          have e8 : (kd == 8) = false := beq_eq_false_iff_ne.2 h8
          have e2' : (kd != 2) = true := by simp [h2]
          have e8' : (kd != 8) = true := by simp [h8]
          clear h2 h8
          go_wp2_with fail
          refine (step15_any gp l c0 c1 c2 c3 c4 (some ⟨g, 0, none⟩) Ax 5 dx kd idle wa HXa.out.pk HXa.out.ticks HXa.out.left HG.out).mono ?_
          rintro e w6 ⟨A6, d6, rfl, p6, s6, k6, t6⟩
          have x60 : w6.cell? ⟨gx, 0, none⟩ = some (.slice (some ⟨g, 0, none⟩) 5 5) := (t6.blk HXa.out.blk HXa.out.ne).cell 0
          have x61 : w6.cell? ⟨gx, 1, none⟩ = some (.slice Ax 5 dx) := (t6.blk HXa.out.blk HXa.out.ne).cell 1
          have f60 := (t6.blk HXa.out.blk HXa.out.ne).frozen 0
          have f61 := (t6.blk HXa.out.blk HXa.out.ne).frozen 1
          have HX6 := Lib.hid (HXa.out.step p6 s6 k6 t6)
          have H16 := Lib.hid (Lv.one_step c0 c1 c2 c3 c4 l kd idle HG.out (Pk.ok HXa.out.pk) H1.out)
          clear p6 s6 k6 t6 a0 a1 x0 x1
          go_wp2
          go_roundw
          case rel => exact ⟨k + 1, _, A6, d6, by omega, by omega, by go_num, H16, HX6⟩
          case measure => simp [intOf]; omega
      · rcases hend with hk1 | ⟨hk1, hk2⟩
        all_goals
          go_wp2
          go_meet
          case rel => exact ⟨l, Ax, dx, H1, HX⟩
  case rest =>
    obtain ⟨l, Ax, dx, H1, HX⟩ := hcut
    clear HX8
    have HSq : Hid (∀ n, Calls Try.prog 14 #[.pointer (some ⟨gp, 0, none⟩)] (wc.drewN n) fun e w' => e = .returned (.bool (Pc.safe l)) ∧ wc.drewN n = w') := fun n => safe_any gp l c0 c1 c2 c3 c4 _ (Bk.drewN HX.out.pk n)
    have HSa := Lib.hid (safe_any gp l c0 c1 c2 c3 c4 wc HX.out.pk)
    have HI : Hid (Pc.safe l = true → Lv.Inv l) := fun h => ⟨h, H1.out⟩
    have hcase : (Pc.safe l = false) ∨ (Pc.safe l = true ∧ decide (0 < Tm.left l 3) = false ∧ decide (0 < Tm.left l 4) = false) ∨ (Pc.safe l = true ∧ decide (0 < Tm.left l 3) = false ∧ decide (0 < Tm.left l 4) = true) ∨ (Pc.safe l = true ∧ decide (0 < Tm.left l 3) = true) := by
      by_cases h3 : 0 < Tm.left l 3 <;> by_cases h4 : 0 < Tm.left l 4 <;> cases Pc.safe l <;> simp [h3, h4]
    have hend17 : ∀ b, b = Pc.safe l → b = Pc.safe l := fun _ h => h
    clear hend17
    rcases hcase with hs | ⟨hs, h3, h4⟩ | hgo
    · as_aux_lemma =>
      go_wp2_with fail
      refine HSa.out.mono ?_
      rintro e w6 ⟨rfl, rfl⟩
      go_upto_region 17 with (fail)
      have HL5 := Lib.hid HX.out.pk.1
      have x0 : wc.cell? ⟨gx, 0, none⟩ = some (.slice (some ⟨g, 0, none⟩) 5 5) := HX.out.blk.cell 0
      have x1 : wc.cell? ⟨gx, 1, none⟩ = some (.slice Ax 5 dx) := HX.out.blk.cell 1
      go_region_held3 (fun wx => wx.cell? ⟨gx, 0, none⟩ = some (.slice (some ⟨g, 0, none⟩) 5 5) ∧ wx.cell? ⟨gx, 1, none⟩ = some (.slice Ax 5 dx))
        (first
          | exact ⟨HX.out.blk.cell 0, HX.out.blk.cell 1⟩
          | exact ⟨(t3.blk HX.out.blk (fun h => h)).cell 0, (t3.blk HX.out.blk (fun h => h)).cell 1⟩)
        (first
          | (go_at_call 14; refine (safe_any gp l c0 c1 c2 c3 c4 _ (by first | exact HX.out.pk | exact Bk.touch HX.out.pk t3 (fun h => h))).mono ?_; rintro e w2 ⟨rfl, rfl⟩)
          | (go_at_call 24; refine (ref_safe (some ⟨g, 0, none⟩) Ax 5 dx l _ HL5.out (by exact HX.out.left)).mono ?_; rintro e w3 ⟨rfl, t3⟩))
      all_goals
        go_wp2
        go_ret
        exact ⟨rfl, (HX.out.fresh.drew.trans t3 (fun _ _ h => h)).below (Nat.le_refl _) (fun _ _ h => h)⟩
    · as_aux_lemma =>
      go_upto_region 17 with (first | (go_at_call 14; refine HSa.out.mono ?_; rintro e w6 ⟨rfl, rfl⟩) | (go_at_call 13; refine (runs_any gp _ l _ _ wc HX.out.pk).mono ?_; rintro e w6 ⟨rfl, rfl⟩))
      have HL5 := Lib.hid HX.out.pk.1
      have x0 : wc.cell? ⟨gx, 0, none⟩ = some (.slice (some ⟨g, 0, none⟩) 5 5) := HX.out.blk.cell 0
      have x1 : wc.cell? ⟨gx, 1, none⟩ = some (.slice Ax 5 dx) := HX.out.blk.cell 1
      go_region_held3 (fun wx => wx.cell? ⟨gx, 0, none⟩ = some (.slice (some ⟨g, 0, none⟩) 5 5) ∧ wx.cell? ⟨gx, 1, none⟩ = some (.slice Ax 5 dx))
        (first
          | exact ⟨HX.out.blk.cell 0, HX.out.blk.cell 1⟩
          | exact ⟨(t3.blk HX.out.blk (fun h => h)).cell 0, (t3.blk HX.out.blk (fun h => h)).cell 1⟩)
        (first
          | (go_at_call 14; refine (safe_any gp l c0 c1 c2 c3 c4 _ (by first | exact HX.out.pk | exact Bk.touch HX.out.pk t3 (fun h => h))).mono ?_; rintro e w2 ⟨rfl, rfl⟩)
          | (go_at_call 24; refine (ref_safe (some ⟨g, 0, none⟩) Ax 5 dx l _ HL5.out (by exact HX.out.left)).mono ?_; rintro e w3 ⟨rfl, t3⟩))
      all_goals
        go_wp2
        go_ret
        exact ⟨rfl, (HX.out.fresh.drew.trans t3 (fun _ _ h => h)).below (Nat.le_refl _) (fun _ _ h => h)⟩
    · as_aux_lemma =>
      have hinv := Lib.hid (HI.out (by rcases hgo with h | h <;> exact h.1))
      have HP := Lib.hid HX.out.pk
      have HF := Lib.hid HX.out.fresh
      have hgp := HX.out.hp
      rcases hgo with ⟨hs, h3, h4⟩ | ⟨hs, h3⟩
      all_goals
        go_wp2_with (first | (go_at_call 14; refine HSa.out.mono ?_; rintro e w6 ⟨rfl, rfl⟩) | (go_at_call 13; refine (runs_any gp _ l _ _ wc HX.out.pk).mono ?_; rintro e w6 ⟨rfl, rfl⟩))
        clear hs h3 HSa HSq HI
        try clear h4
        go_loopw [89] (fun i wr => ∃ (k : Nat) (l : List Int), k ≤ 200 ∧ i = .int .i64 k ∧ Hid (Pk wr gp l c0 c1 c2 c3 c4) ∧ Hid (Lv.Inv l) ∧ Hid (Fresh w wr)) (fun i _ => 200 - (intOf i).toNat)
        case atStart => exact ⟨0, l, by omega, rfl, HP, hinv, HF⟩
        case round =>
          clear HX hinv HP HF H1
          obtain ⟨k, l, hk, rfl, HP, HI, HF⟩ := hrel
          by_cases hk2 : k < 200
          · as_aux_lemma =>
            have hki : (k : Int) < 200 := by omega
            have hk0 : (0 : Int) ≤ (k : Int) := by omega
            go_upto_region 21 with (fail)
            go_cut [13] (fun v wx => (∃ b : Bool, v = .bool b) ∧ wx = wr)
            case first =>
              by_cases hl : k < L1.length
              · have hli : (k : Int) < (L1.length : Int) := by omega
                have hld : decide ((k : Int) < (L1.length : Int)) = true := decide_eq_true hli
                obtain ⟨gI, oI, rfl, _, hcI⟩ := (HR1.out.touch HF.out (fun _ _ _ h => h)).bool_at k hl
                generalize L1.getD k false = bi at *
                go_wp2
                go_meet
                case rel => exact ⟨⟨_, rfl⟩, rfl⟩
              · have hli : ¬ (k : Int) < (L1.length : Int) := by omega
                have hld : decide ((k : Int) < (L1.length : Int)) = false := decide_eq_false hli
                go_wp2
                go_meet
                case rel => exact ⟨⟨_, rfl⟩, rfl⟩
            case rest =>
              obtain ⟨⟨bi, rfl⟩, rfl⟩ := hcut
              go_upto_region 22 with (fail)
              go_cut [110] (fun v wx => (∃ q : Bool, v = .bool q ∧ Hid (q = true → 0 < Tm.left l 4)) ∧ wx = wc)
              case first =>
                have HRu := Lib.hid (runs_any gp _ l _ 4 wc HP.out)
                by_cases h7 : (k : Int) % 7 = 3
                · have hb7 : ((k : Int) % 7 == 3) = true := beq_iff_eq.2 h7
                  have HQ : Hid (decide (0 < Tm.left l 4) = true → 0 < Tm.left l 4) := fun h => of_decide_eq_true h
                  clear h7
                  go_wp2_with (go_at_call 13; refine HRu.out.mono ?_; rintro e w6 ⟨rfl, rfl⟩)
                  go_meet
                  case rel => exact ⟨⟨_, rfl, HQ⟩, rfl⟩
                · have hb7 : ((k : Int) % 7 == 3) = false := beq_eq_false_iff_ne.2 h7
                  clear h7
                  go_wp2
                  go_meet
                  case rel => exact ⟨⟨_, rfl, fun h => nomatch h⟩, rfl⟩
              case rest =>
                obtain ⟨⟨q, rfl, HQ⟩, rfl⟩ := hcut
                go_upto_if 110 with (fail)
                go_cut [] (fun wx => ∃ l1, Hid (Pk wx gp l1 c0 c1 c2 c3 c4) ∧ Hid (Lv.Inv l1) ∧ Hid (Fresh w wx))
                case first =>
                  cases q
                  · go_wp2
                    go_meet
                    case rel => exact ⟨l, HP, HI, HF⟩
                  · have HI2 := Lib.hid (Lv.busy_inv c0 c1 c2 c3 c4 l HG.out (Pk.ok HP.out) HI.out (HQ.out rfl))
                    go_wp2_with fail
                    refine (busy_any gp l c0 c1 c2 c3 c4 _ HP.out).mono ?_
                    rintro e w6 ⟨rfl, p6, t6⟩
                    have HP6 := Lib.hid p6
                    have HF6 : Hid (Fresh w w6) := HF.out.trans t6 (fun k hk e => by have e2 : k = gp := e; omega)
                    clear p6 t6
                    go_wp2
                    go_meet
                    case rel => exact ⟨_, HP6, HI2, HF6⟩
                case rest =>
                  clear HP HI HF HQ
                  obtain ⟨l1, HP, HI, HF⟩ := hcut
                  have HNo := Lib.hid (Lv.over_3 l1 (Pk.ok HP.out) HI.out)
                  have HTi := Lib.hid (Lv.tick_inv l1 (Pk.ok HP.out) HI.out)
                  go_wp2_with fail
                  refine (tick_any gp 37 (by decide) l1 [c0, c1, c2, c3, c4] _ HP.out).mono ?_
                  rintro e w6 ⟨A6, ca6, rfl, s6, p6, t6⟩
                  have HP6 : Hid (Pk w6 gp (Tm.tick l1) c0 c1 c2 c3 c4) := p6
                  have HF6 : Hid (Fresh w w6) := HF.out.trans t6 (fun k hk e => by have e2 : k = gp := e; omega)
                  have HS6 := Lib.hid s6
                  have hne : Hid (∀ ad, A6 = some ad → ¬ ad.block = gp) := s6.blk_ne p6.2.2 (by decide)
                  have hM1 := s6.1
                  have hM2 := s6.2.1
                  unfold maxLen at hM2
                  generalize Tm.over l1 = M at *
                  generalize Tm.tick l1 = l2 at *
                  clear s6 p6 t6 HP HI HF
                  go_wp2_with fail
                  go_loopw [118] (fun i wr => ∃ (j : Nat) (lj : List Int) (asked : Bool), j ≤ M.length ∧ i = .int .i64 j ∧ Hid (Pk wr gp lj c0 c1 c2 c3 c4) ∧ Hid (Fresh w wr) ∧ Hid (Touch (· = gp) w6 wr) ∧ Hid (asked = true → Lv.Inv lj) ∧ Hid (asked = false → lj = l2 ∧ ∀ i, i < j → ¬ (M.getD i 0 = 1 ∨ M.getD i 0 = 2 ∨ M.getD i 0 = 4))) (fun i _ => M.length - (intOf i).toNat)
                  case atStart => exact ⟨0, l2, false, by omega, rfl, HP6, HF6, Touch.refl _ _, (fun h => nomatch h), fun _ => ⟨rfl, fun i h => by omega⟩⟩
                  case round =>
                    clear HP6 HF6
                    obtain ⟨j, lj, asked, hj, rfl, HP, HF, HT, HA, HN⟩ := hrel
                    by_cases hjl : j < M.length
                    · have hji : (j : Int) < (M.length : Int) := by omega
                      have hj0 : (0 : Int) ≤ (j : Int) := by omega
                      obtain ⟨gM, oM, rfl, _, hcM⟩ := (HS6.out.touch HT.out hne.out).int_at j hjl
                      have hmem : M.getD j 0 ∈ M := by
                        have : M.getD j 0 = M[j] := by simp [List.getD, List.getElem?_eq_getElem hjl]
                        rw [this]; exact List.getElem_mem hjl
                      have ht3 : M.getD j 0 ≠ 3 := HNo.out _ hmem
                      obtain ⟨tt, htt⟩ : ∃ tt, tt = M.getD j 0 := ⟨_, rfl⟩
                      rw [← htt] at hcM ht3
                      have hb3 : (tt == 3) = false := beq_eq_false_iff_ne.2 ht3
                      have HTT := Lib.hid htt
                      clear hmem htt ht3
                      by_cases hask : tt = 1 ∨ tt = 2 ∨ tt = 4
                      · have HAs := Lib.hid (asks_any wr (some ⟨gp, 0, none⟩) tt)
                        rw [decide_eq_true hask] at HAs
                        clear hask
                        have HI2 := Lib.hid (Lv.asked_inv c0 c1 c2 c3 c4 lj bi HG.out (Pk.ok HP.out))
                        go_wp2_with fail
                        refine HAs.out.mono ?_
                        rintro e w7 ⟨rfl, rfl⟩
                        go_wp2_with fail
                        refine (polled_any gp lj c0 c1 c2 c3 c4 _ bi HP.out).mono ?_
                        rintro e w7 ⟨rfl, p7, t7⟩
                        have HP7 := Lib.hid p7
                        clear p7
                        go_wp2_with fail
                        refine (answered_any gp _ c0 c1 c2 c3 c4 w7 bi HP7.out).mono ?_
                        rintro e w8 ⟨rfl, p8, t8⟩
                        have HP8 := Lib.hid p8
                        have T8 := t7.trans t8 (fun _ _ h => h)
                        have HT8 := Lib.hid (HT.out.trans T8 (fun _ _ h => h))
                        have HF8 : Hid (Fresh w w8) := HF.out.trans T8 (fun k hk e => by have e2 : k = gp := e; omega)
                        clear p8 t7 t8 T8 HP7 HP HF HT HA HN
                        go_wp2
                        go_roundw
                        case rel => exact ⟨j + 1, _, true, by omega, by go_num, HP8, HF8, HT8, (fun _ => HI2.out), (fun h => nomatch h)⟩
                        case measure => simp [intOf]; omega
                      · have HAs := Lib.hid (asks_any wr (some ⟨gp, 0, none⟩) tt)
                        rw [decide_eq_false hask] at HAs
                        have HN2 : Hid (asked = false → lj = l2 ∧ ∀ i, i < j + 1 → ¬ (M.getD i 0 = 1 ∨ M.getD i 0 = 2 ∨ M.getD i 0 = 4)) := fun h => ⟨(HN.out h).1, fun i hi => by
                          by_cases e : i = j
                          · rw [e, ← HTT.out]; exact hask
                          · exact (HN.out h).2 i (by omega)⟩
                        clear hask
                        go_wp2_with fail
                        refine HAs.out.mono ?_
                        rintro e w7 ⟨rfl, rfl⟩
                        go_wp2
                        go_roundw
                        case rel => exact ⟨j + 1, lj, asked, by omega, by go_num, HP, HF, HT, HA, HN2⟩
                        case measure => simp [intOf]; omega
                    · have hji : ¬ (j : Int) < (M.length : Int) := by omega
                      have hjM : j = M.length := by omega
                      have HIj : Hid (Lv.Inv lj) := by
                        unfold Hid
                        cases asked
                        · obtain ⟨e, hno⟩ := HN.out rfl
                          rw [e]
                          refine HTi.out fun t ht => ?_
                          obtain ⟨i, hi, rfl⟩ := List.mem_iff_getElem.1 ht
                          have := hno i (by omega)
                          rw [show M.getD i 0 = M[i] by simp [List.getD, List.getElem?_eq_getElem hi]] at this
                          exact this
                        · exact HA.out rfl
                      have hs : Pc.safe lj = true := HIj.out.1
                      have HSa := Lib.hid (safe_any gp lj c0 c1 c2 c3 c4 wr HP.out)
                      rw [hs] at HSa
                      clear hjM HA HN hs
                      go_wp2_with fail
                      refine HSa.out.mono ?_
                      rintro e w7 ⟨rfl, rfl⟩
                      go_wp2
                      go_roundw
                      case rel => exact ⟨k + 1, lj, by omega, by go_num, HP, HIj, HF⟩
                      case measure => simp [intOf]; omega
          · have hki : ¬ (k : Int) < 200 := by omega
            go_wp2
            go_ret
            exact ⟨rfl, HF.out.below (Nat.le_refl _) (fun _ _ h => h)⟩

theorem paceLives.walk (v v1 v2 : Value) (w : World) {H : Type} {enc : TypeId × Value → H} {base base1 base2 : Nat} {d d1 d2 : DataW H} {p p1 p2 : List MemPlace} (hv : Value.okWide Try.prog w .any base 22 v) (h : DataW.Trod enc Try.prog w 0 (fun _ => true) true 22 v d p)
    (hv1 : Value.okWide Try.prog w .any base1 54 v1) (h1 : DataW.Trod enc Try.prog w 0 (fun _ => true) true 54 v1 d1 p1)
    (hv2 : Value.okWide Try.prog w .any base2 44 v2) (h2 : DataW.Trod enc Try.prog w 0 (fun _ => true) true 44 v2 d2 p2) :
    Calls Try.prog 6 #[v, v1, v2] w fun e w' => e = .returned (.bool true) ∧ Below w.heap.size w w' := by
  obtain ⟨A, c, l, rfl, hr, _⟩ := open_rd_int hv h
  obtain ⟨A1, c1, l1, rfl, hr1, _⟩ := open_rd boolE Try.underlying54 (by kernel_rfl) (Good := fun _ => True) (fun n cs y hy => by
    obtain ⟨x, rfl, _⟩ := DataW.trod_bool Try.underlying4 hy
    exact ⟨x, rfl, trivial⟩) hv1 h1
  obtain ⟨A2, c2, l2, rfl, hr2, _⟩ := open_rd act15E Try.underlying44 (by kernel_rfl) (Good := fun _ => True) dec_act15 hv2 h2
  exact paceLives.core A c l A1 c1 l1 A2 c2 l2 w hr hr1 hr2
end Go.Proofs.Ytppkbljpendkbaa

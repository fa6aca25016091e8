/-
  polliwogref12: Gap.
-/
import Derived.Test.YtpjmgdoekeknjaaRfM
import Derived.Test.YtpjmgdoekeknjaaCut
namespace Go.Proofs.Ytpjmgdoekeknjaa
open Go.RowKit

def RfGapPost (w : World) (A : Option Addr) (c : Nat) (I : Option Addr) (ci : Nat) (G : Option Addr) (L : List (Option Nat)) (x : Rf.S) (e : Ending) (w' : World) : Prop :=
  ∃ G' cg' L', e = .returned (.tuple #[rfV (Rf.gap x).1 A c I ci G' cg', .int .i64 (Rf.gap x).2.1, .int .i64 (Rf.gap x).2.2.1, .bool (Rf.gap x).2.2.2]) ∧ RfIn w' A c I ci G' cg' L' (Rf.gap x).1 ∧
    (∀ ad, G' = some ad → ∃ ad0, G = some ad0 ∧ ad.block = ad0.block) ∧ (∀ b, some b ∈ L' → some b ∈ L) ∧ Fresh w w'

theorem Rf.gapL_gaps (x : Rf.S) (gs gs' : List (Int × Int)) : Rf.gapL { x with gaps := gs' } gs = Rf.gapL x gs := by
  induction gs with
  | nil => rfl
  | cons g gs ih =>
    have e : ∀ y, Rf.gapL y (g :: gs) = if 0 ≤ (Rf.ft y g).1 then (Rf.renew { y with gaps := gs }, (Rf.ft y g).1, (Rf.ft y g).2, true) else Rf.gapL y gs := fun y => rfl
    rw [e, e, ih]
    rfl

set_option maxHeartbeats 8000000 in
set_option maxRecDepth 4000 in
theorem rfgap_any {lo hi : Int} (A : Option Addr) (c : Nat) (I : Option Addr) (ci : Nat) (G : Option Addr) (cg : Nat) (L : List (Option Nat)) (x : Rf.S) (w : World) (hi2 : RfIn w A c I ci G cg L x) (h : Rf.Ok x lo hi) :
    Calls Try.prog 44 #[rfV x A c I ci G cg] w (RfGapPost w A c I ci G L x) := by
  have HI := Lib.hid hi2
  have HO := Lib.hid h
  have hv : rfV x A c I ci G cg = .agg #[.int .i64 x.R, .int .i64 x.H, .int .i64 x.MR, .int .i64 x.window, .slice A x.buf.length c, .slice I x.inbox.length ci, .slice G x.gaps.length cg] := rfl
  rw [hv]
  clear hi2 h hv
  go_enter Try.func44, Try.ntmps44
  go_wp2_with fail
  go_loopw [6] (fun _ wr => ∃ (gs : List (Int × Int)) (G' : Option Addr) (cg' : Nat) (L' : List (Option Nat)), Hid (RfIn wr A c I ci G' cg' L' { x with gaps := gs }) ∧ Hid (Rf.Ok { x with gaps := gs } lo hi) ∧ Hid (Rf.gap x = Rf.gapL x gs) ∧
    Hid ((∀ ad, G' = some ad → ∃ ad0, G = some ad0 ∧ ad.block = ad0.block) ∧ ∀ b, some b ∈ L' → some b ∈ L) ∧ Hid (Fresh w wr) ∧
    Hid (Blk wr w.heap.size 52 [.int .i64 x.R, .int .i64 x.H, .int .i64 x.MR, .int .i64 x.window, .slice A x.buf.length c, .slice I x.inbox.length ci, .slice G' gs.length cg']) ∧
    Hid (Blk wr (w.heap.size + 1) 52 [.int .i64 0, .int .i64 0, .int .i64 0, .int .i64 0, .slice none 0 0, .slice none 0 0, .slice none 0 0])) (fun _ wr => match wr.cell? ⟨w.heap.size, 6, none⟩ with | some (.slice _ n _) => n | _ => 0)
  case atStart =>
    have hf : Fresh w ((w.alloc (.cells #[.int .i64 x.R, .int .i64 x.H, .int .i64 x.MR, .int .i64 x.window, .slice A x.buf.length c, .slice I x.inbox.length ci, .slice G x.gaps.length cg] 52)).alloc (.cells #[.int .i64 0, .int .i64 0, .int .i64 0, .int .i64 0, .slice none 0 0, .slice none 0 0, .slice none 0 0] 52)) := ((Touch.refl _ w).alloc _).alloc _
    refine ⟨x.gaps, G, cg, L, HI.out.old hf, HO, rfl, ⟨fun ad e => ⟨ad, e, rfl⟩, fun b hb => hb⟩, hf, (Blk.new _ _ _).alloc _, ?_⟩
    have hb := Blk.new (w.alloc (.cells #[.int .i64 x.R, .int .i64 x.H, .int .i64 x.MR, .int .i64 x.window, .slice A x.buf.length c, .slice I x.inbox.length ci, .slice G x.gaps.length cg] 52)) 52 [.int .i64 0, .int .i64 0, .int .i64 0, .int .i64 0, .slice none 0 0, .slice none 0 0, .slice none 0 0]
    rw [show ∀ o, (w.alloc o).heap.size = w.heap.size + 1 from fun o => by simp] at hb
    exact hb
  case round =>
    clear HI HO
    obtain ⟨gs, G', cg', L', HI, HO, HG, HS, HF, HB, HR⟩ := hrel
    have b0 : wr.cell? ⟨w.heap.size, 0, none⟩ = _ := HB.out.cell 0
    have b1 : wr.cell? ⟨w.heap.size, 1, none⟩ = _ := HB.out.cell 1
    have b2 : wr.cell? ⟨w.heap.size, 2, none⟩ = _ := HB.out.cell 2
    have b3 : wr.cell? ⟨w.heap.size, 3, none⟩ = _ := HB.out.cell 3
    have b4 : wr.cell? ⟨w.heap.size, 4, none⟩ = _ := HB.out.cell 4
    have b5 : wr.cell? ⟨w.heap.size, 5, none⟩ = _ := HB.out.cell 5
    have b6 : wr.cell? ⟨w.heap.size, 6, none⟩ = _ := HB.out.cell 6
    simp only [List.getElem?_cons_succ, List.getElem?_cons_zero] at b0 b1 b2 b3 b4 b5 b6
    cases hgs : gs with
    | nil =>
      subst hgs
      have fz := fun i => HR.out.frozen i
      have r0 : wr.cell? ⟨w.heap.size + 1, 0, none⟩ = _ := HR.out.cell 0
      have r1 : wr.cell? ⟨w.heap.size + 1, 1, none⟩ = _ := HR.out.cell 1
      have r2 : wr.cell? ⟨w.heap.size + 1, 2, none⟩ = _ := HR.out.cell 2
      have r3 : wr.cell? ⟨w.heap.size + 1, 3, none⟩ = _ := HR.out.cell 3
      have r4 : wr.cell? ⟨w.heap.size + 1, 4, none⟩ = _ := HR.out.cell 4
      have r5 : wr.cell? ⟨w.heap.size + 1, 5, none⟩ = _ := HR.out.cell 5
      have r6 : wr.cell? ⟨w.heap.size + 1, 6, none⟩ = _ := HR.out.cell 6
      simp only [List.getElem?_cons_succ, List.getElem?_cons_zero] at r0 r1 r2 r3 r4 r5 r6
      have HX : Hid (∀ W, Touch (· = w.heap.size + 1) wr W → RfGapPost w A c I ci G L x (.returned (.tuple #[.agg #[.int .i64 x.R, .int .i64 x.H, .int .i64 x.MR, .int .i64 x.window, .slice A x.buf.length c, .slice I x.inbox.length ci, .slice G' 0 cg'], .int .i64 0, .int .i64 0, .bool false])) W) := fun W hf => by
        refine ⟨G', cg', L', ?_, ?_, HS.out.1, HS.out.2, HF.out.trans hf (fun k hk h => by omega)⟩
        · rw [HG.out]; rfl
        · rw [HG.out]; exact HI.out.far HR.out hf
      clear HI HO HG HS HF HB HR
      rw [List.length_nil] at b6
      go_wp2
      refine bodyPost_ret (v := _) (by simp [results, Try.results44, go_sem, r0, r1, r2, r3, r4, r5, r6]) rfl (HX.out _ ?_)
      repeat (first | with_reducible refine Touch.st ?_ rfl | with_reducible exact Touch.refl _ _)
    | cons g rest =>
      subst hgs
      cases L' with
      | nil => exact HI.out.rows.elim
      | cons o L' =>
        obtain ⟨⟨b, rfl, hbb⟩, hrows⟩ := HI.out.rows
        obtain ⟨gg, go, rfl, _, e0⟩ := HI.out.gap.gs_at 0 (by simp)
        simp only [List.getD_cons_zero, Nat.add_zero] at e0
        have BB := Lib.hid hbb
        have RW := Lib.hid hrows
        clear hbb hrows
        have hcap := HI.out.gap.1
        have hcapm := HI.out.gap.2.1
        unfold maxLen at hcapm
        have hll := RW.out.len
        rw [List.length_cons] at hcap b6
        rw [hll] at hcap
        obtain ⟨N, hN⟩ : ∃ N, rest.length = N := ⟨_, rfl⟩
        rw [hN] at hcap b6 hll
        obtain ⟨G2, hG2⟩ : ∃ G2, (if cg' = 1 then some (⟨gg, go, none⟩ : Addr) else some ⟨gg, go + 1, none⟩) = G2 := ⟨_, rfl⟩
        have HS1 : Hid (Sl gsE wr G2 (cg' - 1) L') := by
          have := HI.out.gap.from_ (k := 1) (by simp)
          rw [← hG2]
          by_cases h1 : cg' = 1
          · rw [if_pos h1] at this ⊢
            exact this
          · rw [if_neg h1] at this ⊢
            have h2 : Sl gsE wr (some (Addr.add ⟨gg, go, none⟩ 1)) (cg' - 1) L' := this
            rwa [Addr.add_lit] at h2
        have HSo : Hid ((∀ ad, G2 = some ad → ∃ ad0, G = some ad0 ∧ ad.block = ad0.block) ∧ ∀ b, some b ∈ L' → some b ∈ L) := by
          refine ⟨fun ad e => ?_, fun b hb => HS.out.2 b (by simp [hb])⟩
          obtain ⟨ad0, h1, h2⟩ := HS.out.1 _ rfl
          refine ⟨ad0, h1, ?_⟩
          rw [← h2]
          rw [← hG2] at e
          split at e <;> (injection e with e; subst e; rfl)
        have hlz : (0 : Int) < (N : Int) + 1 := by omega
        have hdz : decide ((0 : Int) < (N : Int) + 1) = true := decide_eq_true hlz
        have h1c : (1 : Int) ≤ (N : Int) + 1 := by omega
        have hNc : (N : Int) + 1 ≤ (cg' : Int) := by omega
        have fz := HB.out.frozen 6
        go_upto_region 3 with (fail)
        have e6 : gsV (some b) = .slice (some ⟨b, 0, none⟩) 2 2 := rfl
        rw [e6] at e0 ⊢
        have hne : ∀ ad, G2 = some ad → ad.block ≠ w.heap.size := HS1.out.blk_ne HB.out (by decide)
        have hT : Hid (Touch (· = w.heap.size) wr (wr.setCell ⟨w.heap.size, 6, none⟩ (.slice G2 N (cg' - 1)))) := Touch.set1 _ _ _ _
        have B2 := Lib.hid (hT.out.blk BB.out (HB.out.ne_ BB.out (by decide)).symm)
        have I2 : Hid (RfIn (wr.setCell ⟨w.heap.size, 6, none⟩ (.slice G2 N (cg' - 1))) A c I ci G2 (cg' - 1) L' { x with gaps := rest }) :=
          ⟨HI.out.buf.touch hT.out (HI.out.buf.blk_ne HB.out (by decide)), HI.out.inb.touch hT.out (HI.out.inb.blk_ne HB.out (by decide)), HS1.out.touch hT.out hne, GapRows.far HB.out hT.out (by decide) RW.out⟩
        have R2 := Lib.hid (HR.out.far (p := ⟨w.heap.size, 6, none⟩) (by simp) (.slice G2 N (cg' - 1)))
        have F2 : Hid (Fresh w (wr.setCell ⟨w.heap.size, 6, none⟩ (.slice G2 N (cg' - 1)))) := HF.out.setCell (fun h => by simp at h) _
        have HB2 : Hid (Blk (wr.setCell ⟨w.heap.size, 6, none⟩ (.slice G2 N (cg' - 1))) w.heap.size 52 [.int .i64 x.R, .int .i64 x.H, .int .i64 x.MR, .int .i64 x.window, .slice A x.buf.length c, .slice I x.inbox.length ci, .slice G2 rest.length (cg' - 1)]) := by
          have := HB.out.set 6 (.slice G2 N (cg' - 1))
          rw [hN]
          exact this
        have O2 : Hid (Rf.Ok { x with gaps := rest } lo hi) := HO.out.gapless rest (fun g' h => by simp [h]) (by have := HO.out.glen; simp at this; omega)
        have HMS : Hid ((match wr.cell? ⟨w.heap.size, 6, none⟩ with | some (.slice _ n _) => n | _ => 0) = N + 1) := by
          show _ = _
          rw [b6]
        have HNr : Hid (rest.length = N) := hN
        clear BB RW HS1 HR HF HS HI hT hll hN HB
        go_cut [] (fun wx => wx = wr.setCell ⟨w.heap.size, 6, none⟩ (.slice G2 N (cg' - 1)))
        case first =>
          by_cases h1 : cg' = 1
          · rw [if_pos h1] at hG2
            subst h1
            have hN0 : N = 0 := by omega
            subst hN0
            subst hG2
            clear I2 F2 R2 B2 HB2 hdz
            go_wp2
            go_meet
            case rel => first | rfl | trivial
          · rw [if_neg h1] at hG2
            subst hG2
            clear I2 F2 R2 B2 HB2 hdz
            go_wp2
            go_meet
            case rel => first | rfl | trivial
        case rest =>
          subst hcut
          generalize wr.setCell ⟨w.heap.size, 6, none⟩ (.slice G2 N (cg' - 1)) = w3 at *
          clear b0 b1 b2 b3 b4 b5 b6 hne e0 e6 hG2 fz
          have b0 : w3.cell? ⟨w.heap.size, 0, none⟩ = _ := HB2.out.cell 0
          have b1 : w3.cell? ⟨w.heap.size, 1, none⟩ = _ := HB2.out.cell 1
          have b2 : w3.cell? ⟨w.heap.size, 2, none⟩ = _ := HB2.out.cell 2
          have b3 : w3.cell? ⟨w.heap.size, 3, none⟩ = _ := HB2.out.cell 3
          have b4 : w3.cell? ⟨w.heap.size, 4, none⟩ = _ := HB2.out.cell 4
          have b5 : w3.cell? ⟨w.heap.size, 5, none⟩ = _ := HB2.out.cell 5
          have b6 : w3.cell? ⟨w.heap.size, 6, none⟩ = _ := HB2.out.cell 6
          simp only [List.getElem?_cons_succ, List.getElem?_cons_zero] at b0 b1 b2 b3 b4 b5 b6
          have hmis : Rf.missing { x with gaps := rest } = Rf.missing x := rfl
          have HMI := Lib.hid (rfmissing_any A c I ci G2 (cg' - 1) L' { x with gaps := rest } w3 I2.out O2.out)
          rw [hmis] at HMI
          unfold rfV at HMI
          simp only at HMI
          go_wp2_with fail
          refine HMI.out.mono ?_
          rintro e w4 ⟨A4, c4, rfl, m4⟩
          have B4 := Lib.hid (m4.fresh.blk B2.out (fun h => h))
          have I4 := Lib.hid (I2.out.old m4.fresh)
          have R4 := Lib.hid (m4.fresh.blk R2.out (fun h => h))
          have F4 := Lib.hid (F2.out.trans m4.fresh (fun _ _ h => h))
          have HB4 := Lib.hid (m4.fresh.blk HB2.out (fun h => h))
          have S4 := Lib.hid m4.sl
          clear m4 B2 I2 R2 F2 HB2 HMI b0 b1 b2 b3 b4 b5 b6
          have ob1 := O2.out.lo0
          have ob2 := O2.out.lor
          have ob3 := O2.out.rhi
          have ob4 := O2.out.hl
          have ob5 := O2.out.hm
          have ob6 := O2.out.sum
          have ob7 := O2.out.win
          simp only at ob2 ob3 ob5 ob6 ob7
          have HMB : Hid (∀ n ∈ Rf.missing x, 0 ≤ n ∧ n ≤ 50000000) := fun n hn => by
            have := (Rf.mem_missing x n).1 hn
            omega
          have HFT : Hid (Rf.ft x g = (Rf.missing x).foldl (Rf.ftStep g) (-1, -1)) := rfl
          generalize Rf.missing x = M at *
          have hMc := S4.out.1
          have hMm := S4.out.2.1
          unfold maxLen at hMm
          have g0 : w4.cell? ⟨b, 0, none⟩ = _ := B4.out.cell 0
          have g1 : w4.cell? ⟨b, 1, none⟩ = _ := B4.out.cell 1
          simp only [List.getElem?_cons_succ, List.getElem?_cons_zero] at g0 g1
          simp only
          go_wp2_with fail
          go_loopw [7, 8, 26] (fun f t i wr => ∃ k : Nat, k ≤ M.length ∧ i = .int .i64 k ∧ f = .int .i64 ((M.take k).foldl (Rf.ftStep g) (-1, -1)).1 ∧ t = .int .i64 ((M.take k).foldl (Rf.ftStep g) (-1, -1)).2 ∧ wr = w4) (fun _ _ i _ => M.length - (intOf i).toNat)
          case atStart => exact ⟨0, by omega, rfl, rfl, rfl, rfl⟩
          case round =>
            obtain ⟨k, hk, rfl, rfl, rfl, rfl⟩ := hrel
            by_cases hlt : k < M.length
            · obtain ⟨gm, om, rfl, hgm, cm⟩ := S4.out.int_at k hlt
              have hkl : (k : Int) < (M.length : Int) := by omega
              have hk0 : (0 : Int) ≤ (k : Int) := by omega
              have HY : Hid (M.getD k 0 ∈ M ∧ M.take (k + 1) = M.take k ++ [M.getD k 0]) := by
                have e : M.getD k 0 = M[k] := by simp [List.getD, List.getElem?_eq_getElem hlt]
                rw [e]
                exact ⟨List.getElem_mem _, List.take_succ_eq_append_getElem hlt⟩
              have HN : Hid ((M.take (k + 1)).foldl (Rf.ftStep g) (-1, -1) = Rf.ftStep g ((M.take k).foldl (Rf.ftStep g) (-1, -1)) (M.getD k 0)) := by
                unfold Hid
                rw [HY.out.2, List.foldl_append]
                rfl
              have hyb := HMB.out _ HY.out.1
              generalize M.getD k 0 = y at *
              generalize (M.take k).foldl (Rf.ftStep g) (-1, -1) = ft at *
              obtain ⟨f1, f2⟩ := ft
              by_cases c1 : g.1 ≤ y
              · have d1 : decide (g.1 ≤ y) = true := decide_eq_true c1
                by_cases c2 : y < g.2
                · have d2 : decide (y < g.2) = true := decide_eq_true c2
                  by_cases c3 : f1 < 0
                  · have d3 : decide (f1 < 0) = true := decide_eq_true c3
                    have hst : Rf.ftStep g (f1, f2) y = (y, y + 1) := by
                      unfold Rf.ftStep
                      rw [if_pos ⟨c1, c2, Or.inl c3⟩, if_pos c3]
                    rw [hst] at HN
                    clear hst c1 c2 c3 HY
                    go_wp2
                    go_roundw
                    case rel => exact ⟨k + 1, by omega, by go_num, by rw [HN.out], by rw [HN.out], by first | trivial | rfl⟩
                    case measure => simp [intOf]; omega
                  · have d3 : decide (f1 < 0) = false := decide_eq_false c3
                    by_cases c4' : y = f2
                    · have d4 : (y == f2) = true := by simpa using c4'
                      have hst : Rf.ftStep g (f1, f2) y = (f1, y + 1) := by
                        unfold Rf.ftStep
                        rw [if_pos ⟨c1, c2, Or.inr c4'⟩, if_neg c3]
                      rw [hst] at HN
                      clear hst c1 c2 c3 c4' HY
                      go_wp2
                      go_roundw
                      case rel => exact ⟨k + 1, by omega, by go_num, by rw [HN.out], by rw [HN.out], by first | trivial | rfl⟩
                      case measure => simp [intOf]; omega
                    · have d4 : (y == f2) = false := by simpa using c4'
                      have hst : Rf.ftStep g (f1, f2) y = (f1, f2) := by
                        unfold Rf.ftStep
                        rw [if_neg (fun h => h.2.2.elim c3 c4')]
                      rw [hst] at HN
                      clear hst c1 c2 c3 c4' HY
                      go_wp2
                      go_roundw
                      case rel => exact ⟨k + 1, by omega, by go_num, by rw [HN.out], by rw [HN.out], by first | trivial | rfl⟩
                      case measure => simp [intOf]; omega
                · have d2 : decide (y < g.2) = false := decide_eq_false c2
                  have hst : Rf.ftStep g (f1, f2) y = (f1, f2) := by
                    unfold Rf.ftStep
                    rw [if_neg (fun h => c2 h.2.1)]
                  rw [hst] at HN
                  clear hst c1 c2 HY
                  go_wp2
                  go_roundw
                  case rel => exact ⟨k + 1, by omega, by go_num, by rw [HN.out], by rw [HN.out], by first | trivial | rfl⟩
                  case measure => simp [intOf]; omega
              · have d1 : decide (g.1 ≤ y) = false := decide_eq_false c1
                have hst : Rf.ftStep g (f1, f2) y = (f1, f2) := by
                  unfold Rf.ftStep
                  rw [if_neg (fun h => c1 h.1)]
                rw [hst] at HN
                clear hst c1 HY
                go_wp2
                go_roundw
                case rel => exact ⟨k + 1, by omega, by go_num, by rw [HN.out], by rw [HN.out], by first | trivial | rfl⟩
                case measure => simp [intOf]; omega
            · obtain rfl : k = M.length := by omega
              rw [List.take_length] at *
              rw [← HFT.out]
              have hl1 : ¬ ((M.length : Int) < (M.length : Int)) := by omega
              clear HFT HMB g0 g1 hmis
              have b0 : wr.cell? ⟨w.heap.size, 0, none⟩ = _ := HB4.out.cell 0
              have b1 : wr.cell? ⟨w.heap.size, 1, none⟩ = _ := HB4.out.cell 1
              have b2 : wr.cell? ⟨w.heap.size, 2, none⟩ = _ := HB4.out.cell 2
              have b3 : wr.cell? ⟨w.heap.size, 3, none⟩ = _ := HB4.out.cell 3
              have b4 : wr.cell? ⟨w.heap.size, 4, none⟩ = _ := HB4.out.cell 4
              have b5 : wr.cell? ⟨w.heap.size, 5, none⟩ = _ := HB4.out.cell 5
              have b6 : wr.cell? ⟨w.heap.size, 6, none⟩ = _ := HB4.out.cell 6
              simp only [List.getElem?_cons_succ, List.getElem?_cons_zero] at b0 b1 b2 b3 b4 b5 b6
              have hg1 : Rf.gapL x (g :: rest) = if 0 ≤ (Rf.ft x g).1 then (Rf.renew { x with gaps := rest }, (Rf.ft x g).1, (Rf.ft x g).2, true) else Rf.gapL x rest := rfl
              generalize Rf.ft x g = ft at *
              obtain ⟨f1, f2⟩ := ft
              by_cases c1 : 0 ≤ f1
              · have d1 : decide (0 ≤ f1) = true := decide_eq_true c1
                rw [hg1, if_pos c1] at HG
                have HRN := Lib.hid (rfrenew_any A c I ci G2 (cg' - 1) { x with gaps := rest } wr O2.out)
                unfold rfV at HRN
                simp only at HRN
                clear hg1 c1
                go_wp2_with fail
                refine HRN.out.mono ?_
                rintro e w5 ⟨rfl, f5⟩
                have I5 : Hid (RfIn w5 A c I ci G2 (cg' - 1) L' (Rf.renew { x with gaps := rest })) := ⟨(I4.out.old f5).buf, (I4.out.old f5).inb, (I4.out.old f5).gap, (I4.out.old f5).rows⟩
                have F5 := Lib.hid (F4.out.trans f5 (fun _ _ h => h))
                have R5 := Lib.hid (f5.blk R4.out (fun h => h))
                clear f5 R4 I4 F4 B4 HB4 S4 HRN b0 b1 b2 b3 b4 b5 b6
                have HX : Hid (∀ W, Touch (· = w.heap.size + 1) w5 W → RfGapPost w A c I ci G L x (.returned (.tuple #[.agg #[.int .i64 (Rf.renew { x with gaps := rest }).R, .int .i64 (Rf.renew { x with gaps := rest }).H, .int .i64 (Rf.renew { x with gaps := rest }).MR, .int .i64 (Rf.renew { x with gaps := rest }).window,
                    .slice A (Rf.renew { x with gaps := rest }).buf.length c, .slice I (Rf.renew { x with gaps := rest }).inbox.length ci, .slice G2 (Rf.renew { x with gaps := rest }).gaps.length (cg' - 1)], .int .i64 f1, .int .i64 f2, .bool true])) W) := fun W hf => by
                  refine ⟨G2, cg' - 1, L', ?_, ?_, HSo.out.1, HSo.out.2, F5.out.trans hf (fun k hk h => by omega)⟩
                  · rw [HG.out]; rfl
                  · rw [HG.out]; exact I5.out.far R5.out hf
                have fz := fun i => R5.out.frozen i
                have r0 : w5.cell? ⟨w.heap.size + 1, 0, none⟩ = _ := R5.out.cell 0
                have r1 : w5.cell? ⟨w.heap.size + 1, 1, none⟩ = _ := R5.out.cell 1
                have r2 : w5.cell? ⟨w.heap.size + 1, 2, none⟩ = _ := R5.out.cell 2
                have r3 : w5.cell? ⟨w.heap.size + 1, 3, none⟩ = _ := R5.out.cell 3
                have r4 : w5.cell? ⟨w.heap.size + 1, 4, none⟩ = _ := R5.out.cell 4
                have r5 : w5.cell? ⟨w.heap.size + 1, 5, none⟩ = _ := R5.out.cell 5
                have r6 : w5.cell? ⟨w.heap.size + 1, 6, none⟩ = _ := R5.out.cell 6
                simp only [List.getElem?_cons_succ, List.getElem?_cons_zero] at r0 r1 r2 r3 r4 r5 r6
                clear R5 HG HMS
                simp only
                go_wp2
                refine bodyPost_ret (v := _) (by simp [results, Try.results44, go_sem, r0, r1, r2, r3, r4, r5, r6]) rfl (HX.out _ ?_)
                repeat (first | with_reducible refine Touch.st ?_ rfl | with_reducible exact Touch.refl _ _)
              · have d1 : decide (0 ≤ f1) = false := decide_eq_false c1
                rw [hg1, if_neg c1] at HG
                clear hg1 c1
                go_wp2
                go_roundw
                case rel => exact ⟨rest, G2, cg' - 1, L', I4, O2, HG, HSo, F4, HB4, R4⟩
                case measure =>
                  rw [HMS.out, b6]
                  simp only [HNr.out]
                  omega
end Go.Proofs.Ytpjmgdoekeknjaa

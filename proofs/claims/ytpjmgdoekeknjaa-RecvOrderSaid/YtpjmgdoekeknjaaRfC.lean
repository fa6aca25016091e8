/-
  polliwogref12: Data.
-/
import Derived.Test.YtpjmgdoekeknjaaRfC0
namespace Go.Proofs.Ytpjmgdoekeknjaa
open Go.RowKit

set_option maxHeartbeats 8000000 in
set_option maxRecDepth 4000 in
theorem rfdata_any {lo hi : Int} (D : Nat → Prop) (A : Option Addr) (c : Nat) (I : Option Addr) (ci : Nat) (G : Option Addr) (cg : Nat) (L : List (Option Nat)) (x : Rf.S) (n : Int) (v : ByteArray) (w : World) (hi2 : RfIn w A c I ci G cg L x) (hd : RfD A I G L D) (h : Rf.Ok x lo hi) (hil : x.inbox.length ≤ 1000000) :
    Calls Try.prog 28 #[rfV x A c I ci G cg, .int .i64 n, .string v] w (RfDataPost w D (Rf.data x n v).1 (Rf.data x n v).2) := by
  have h1 := h.lo0
  have h2 := h.lor
  have h3 := h.rhi
  have h4 := h.hl
  have h5 := h.hm
  have h6 := h.sum
  have h7 := h.win
  have h8 := h.rh
  obtain ⟨b1, b2, _⟩ := h.at_bd n
  have HT := Lib.hid (r01to_any x.R n)
  obtain ⟨d, hd'⟩ : ∃ d, d = (n - x.R) % 16777216 := ⟨_, rfl⟩
  rw [← hd'] at HT
  have ea : Rf.at_ x n = x.R + d := by unfold Rf.at_; rw [hd']
  have hd0 : 0 ≤ d ∧ d < 16777216 := by omega
  have HDA : Hid (Rf.data x n v = if Rf.takes x (x.R + d) = true then Rf.deliver (Rf.lay x (x.R + d) v) else (x, [])) := by unfold Hid Rf.data; rw [ea]
  have HBX : Hid (RfBox w _ D A c I ci G cg L x) := RfBox.new hi2 hd
  have HHA : Hid (∀ W, Fresh w W → Calls Try.prog 47 #[rfV x A c I ci G cg, .int .i64 (x.R + d)] W fun e w' => e = .returned (.bool (Rf.has x (x.R + d))) ∧ Fresh W w') := fun W hf => rfhas_any A c I ci G cg L x _ W (hi2.old hf)
  have HO := Lib.hid h
  have HIW : Hid (∀ ad, I = some ad → ad.block < w.heap.size) := hi2.inb.lt
  clear hd' ea b1 b2 hi2 hd h
  unfold rfV at HHA ⊢
  go_enter Try.func28, Try.ntmps28
  go_wp2_with fail
  generalize hw0 : (World.alloc _ _) = w0 at HBX ⊢
  clear hw0
  obtain ⟨c0, c1, c2, c3, c4, c5, c6⟩ := HBX.out.cells
  go_quiet ((go_at_call 46; with_reducible refine Calls.quiet_of_same (HT.out _)))
  have HB1 := Lib.hid (HBX.out.old ((Touch.refl (fun _ => False) w0).drewN nq))
  generalize w0.drewN nq = w1 at *
  clear c0 c1 c2 c3 c4 c5 c6 HBX
  obtain ⟨c0, c1, c2, c3, c4, c5, c6⟩ := HB1.out.cells
  obtain ⟨z0, z1, z2, z3, z4, z5, z6⟩ := HB1.out.zeros
  have fz := fun i => HB1.out.res.frozen i
  have fb := fun i => HB1.out.blk.frozen i
  by_cases t1 : x.MR ≤ x.R + d
  · have d1 : decide (x.MR ≤ x.R + d) = true := decide_eq_true t1
    have ht : Rf.takes x (x.R + d) = false := by unfold Rf.takes; rw [decide_eq_false (show ¬ x.R + d < x.MR by omega)]; rfl
    rw [ht, if_neg (by decide)] at HDA
    have HX : Hid (∀ W, Touch (· = w.heap.size + 1) w1 W → RfDataPost w D (Rf.data x n v).1 (Rf.data x n v).2 (.returned (.tuple #[.agg #[.int .i64 x.R, .int .i64 x.H, .int .i64 x.MR, .int .i64 x.window, .slice A x.buf.length c, .slice I x.inbox.length ci, .slice G x.gaps.length cg], .slice none 0 0])) W) := fun W hf => by
      rw [HDA.out]
      obtain ⟨e1, e2, e3⟩ := HB1.out.done hf
      exact ⟨A, c, I, ci, G, cg, L, none, 0, rfl, e1, e2, e3, Sl.nil _ _, fun _ h => by cases h⟩
    clear HDA HHA HT HO HB1 t1 ht
    go_wp2
    refine bodyPost_ret (v := _) (by simp [results, Try.results28, go_sem, z0, z1, z2, z3, z4, z5, z6]) rfl (HX.out _ ?_)
    repeat (first | with_reducible refine Touch.st ?_ rfl | with_reducible exact Touch.refl _ _)
  · have d1 : decide (x.MR ≤ x.R + d) = false := decide_eq_false t1
    have HH1 := Lib.hid (HHA.out w1 HB1.out.fresh)
    clear HHA HT
    go_wp2_with fail
    refine HH1.out.mono ?_
    rintro e w2 ⟨rfl, f2⟩
    have HB2 := Lib.hid (HB1.out.old f2)
    clear f2 HH1 HB1 c0 c1 c2 c3 c4 c5 c6 z0 z1 z2 z3 z4 z5 z6 fz fb
    obtain ⟨c0, c1, c2, c3, c4, c5, c6⟩ := HB2.out.cells
    obtain ⟨z0, z1, z2, z3, z4, z5, z6⟩ := HB2.out.zeros
    have fz := fun i => HB2.out.res.frozen i
    have fb := fun i => HB2.out.blk.frozen i
    simp only
    cases hh : Rf.has x (x.R + d) with
    | true =>
      have ht : Rf.takes x (x.R + d) = false := by unfold Rf.takes; rw [hh]; simp
      rw [ht, if_neg (by decide)] at HDA
      have HX : Hid (∀ W, Touch (· = w.heap.size + 1) w2 W → RfDataPost w D (Rf.data x n v).1 (Rf.data x n v).2 (.returned (.tuple #[.agg #[.int .i64 x.R, .int .i64 x.H, .int .i64 x.MR, .int .i64 x.window, .slice A x.buf.length c, .slice I x.inbox.length ci, .slice G x.gaps.length cg], .slice none 0 0])) W) := fun W hf => by
        rw [HDA.out]
        obtain ⟨e1, e2, e3⟩ := HB2.out.done hf
        exact ⟨A, c, I, ci, G, cg, L, none, 0, rfl, e1, e2, e3, Sl.nil _ _, fun _ h => by cases h⟩
      clear HDA HO HB2 t1 ht hh
      go_wp2
      refine bodyPost_ret (v := _) (by simp [results, Try.results28, go_sem, z0, z1, z2, z3, z4, z5, z6]) rfl (HX.out _ ?_)
      repeat (first | with_reducible refine Touch.st ?_ rfl | with_reducible exact Touch.refl _ _)
    | false =>
      have ht : Rf.takes x (x.R + d) = true := by unfold Rf.takes; rw [hh, decide_eq_true (show x.R + d < x.MR by omega)]; rfl
      rw [ht, if_pos rfl] at HDA
      have HLD := Lib.hid (HO.out.laid v (show x.R ≤ x.R + d by omega) ht)
      have HSB := Lib.hid HB2.out.ins.buf
      have hbl : Hid (x.buf.length ≤ 64) := HO.out.blen
      clear ht hh HO
      have c4a : ∀ o, (w2.alloc o).cell? ⟨w.heap.size, 4, none⟩ = some (.slice A x.buf.length c) := fun o => (HB2.out.blk.alloc o).cell 4
      go_upto_region 5 with (first
        | (at_builtin; refine app_item rfl rfl (l := []) (l2 := x.buf) rfl rfl (Sl.lit itemE _ _ rfl #[] [] rfl _ rfl (by decide)) (Sl.rd (HSB.out.alloc _)) (by have := hbl.out; simp; omega) ?_; intro A3 a3 L3 w3 hL3 hs3 ht3 hA3; have M3 := Lib.hid ((Mine.lit itemE w2 #[] [] rfl 0 rfl (by decide)).app hs3 ht3 hA3); clear hs3 ht3 hA3 c4a)
        | (at_builtin; refine app_item rfl rfl (l := L3) (l2 := [(x.R + d, v)]) rfl rfl (M3.out.sl.alloc _) (Sl.rd (Sl.lit itemE _ _ rfl _ _ rfl _ rfl (by decide))) (by have := hbl.out; rw [hL3.out]; simp; omega) ?_; intro A4 a4 L4 w4 hL4 hs4 ht4 hA4; have M4 := Lib.hid ((M3.out.alloc (.cells #[.int .i64 (x.R + d), .string v] 98)).app hs4 ht4 hA4); have HB4 := Lib.hid (HB2.out.old M4.out.fresh); have cc4 := HB4.out.cells.2.2.2.2.1; have fb4 := HB4.out.blk.frozen 4; clear hs4 ht4 hA4 M3 c0 c1 c2 c3 c4 c5 c6 z0 z1 z2 z3 z4 z5 z6 fz fb))
      have eL4 : L4 = x.buf ++ [(x.R + d, v)] := by rw [hL4.out, hL3.out]; rfl
      have HB5 := Lib.hid (HB4.out.bufd M4.out.sl (fun ad e => Nat.le_trans HB2.out.fresh.size (M4.out.base ad e)))
      have HDM : Hid (∀ ad, A4 = some ad → w.heap.size ≤ ad.block) := fun ad e => Nat.le_trans HB2.out.fresh.size (M4.out.base ad e)
      clear cc4 fb4 HB4 HB2 M4 HSB hL3 hL4
      subst eL4
      generalize w4.setCell ⟨w.heap.size, 4, none⟩ (.slice A4 (x.buf ++ [(x.R + d, v)]).length a4) = w5 at *
      obtain ⟨c0, c1, c2, c3, c4, c5, c6⟩ := HB5.out.cells
      simp only at c0 c1 c2 c3 c4 c5 c6
      go_cut [50] (fun s wx => ∃ q : Bool, s = .bool q ∧ Hid (q = true ↔ (x.R + d > x.H ∧ x.gaps.length < 8)) ∧ wx = w5)
      case first =>
        by_cases g1 : x.H < x.R + d
        · have e1 : decide (x.H < x.R + d) = true := decide_eq_true g1
          have g2' : ((x.gaps.length : Int) < 8) ↔ x.gaps.length < 8 := by omega
          have e2 : decide ((x.gaps.length : Int) < 8) = decide (x.gaps.length < 8) := by simp only [g2']
          have hq : Hid (decide (x.gaps.length < 8) = true ↔ (x.R + d > x.H ∧ x.gaps.length < 8)) := ⟨fun h => ⟨g1, of_decide_eq_true h⟩, fun h => decide_eq_true h.2⟩
          clear g2'
          generalize decide (x.gaps.length < 8) = q at *
          go_wp2
          go_meet
          case rel => exact ⟨q, by first | rfl | simp, hq, rfl⟩
        · have e1 : decide (x.H < x.R + d) = false := decide_eq_false g1
          go_wp2
          go_meet
          case rel => exact ⟨false, rfl, ⟨fun h => (by cases h), fun h => by (have := h.1; omega)⟩, rfl⟩
      case rest =>
      obtain ⟨q, rfl, hq, rfl⟩ := hcut
      obtain ⟨gs, hgs⟩ : ∃ gs, gs = if x.R + d > x.H ∧ x.gaps.length < 8 then x.gaps ++ [(x.H, x.R + d)] else x.gaps := ⟨_, rfl⟩
      go_upto_if 50 with (fail)
      go_cut [] (fun wx => ∃ G' cg' L', Hid (RfBox w wx D A4 a4 I ci G' cg' L' { x with buf := x.buf ++ [(x.R + d, v)], gaps := gs }))
      case first =>
        cases q with
        | true =>
          have g := hq.out.1 rfl
          rw [if_pos g] at hgs
          have HSG : Hid (Sl gsE wc.drew G cg L) := HB5.out.ins.gap
          have hll := HB5.out.ins.rows.len
          simp only at hll
          rw [← hll] at c6
          have k6 : ∀ o, (wc.alloc o).cell? ⟨w.heap.size, 6, none⟩ = some (.slice G L.length cg) := fun o => by
            have := (HB5.out.blk.alloc o).cell 6
            rw [hll]
            exact this
          have k6b : ∀ o o', ((wc.alloc o).alloc o').cell? ⟨w.heap.size, 6, none⟩ = some (.slice G L.length cg) := fun o o' => by
            have := ((HB5.out.blk.alloc o).alloc o').cell 6
            rw [hll]
            exact this
          have k6c : ∀ o o' o'', (((wc.alloc o).alloc o').alloc o'').cell? ⟨w.heap.size, 6, none⟩ = some (.slice G L.length cg) := fun o o' o'' => by
            have := (((HB5.out.blk.alloc o).alloc o').alloc o'').cell 6
            rw [hll]
            exact this
          have k1 : ∀ o, (wc.alloc o).cell? ⟨w.heap.size, 1, none⟩ = some (.int .i64 x.H) := fun o => (HB5.out.blk.alloc o).cell 1
          have hL8 : L.length ≤ 8 := by omega
          have HBK : Hid (Blk wc.drew w.heap.size 52 (rfCells { x with buf := x.buf ++ [(x.R + d, v)] } A4 a4 I ci G cg)) := HB5.out.blk
          have hlt5 : w.heap.size < wc.heap.size := HB5.out.blk.lt
          have HLL := Lib.hid hll
          clear HLD HDA hq hll
          have HGS := Lib.hid hgs
          clear hgs
          go_upto_region 6 with (fail)
          go_region_law (first
            | (refine stp_gs rfl rfl (l := []) (l2 := L) rfl rfl ?_ ?_ (by simp; omega) ?_
               (first
                 | exact Sl.lit gsE _ _ (by first | rfl | (simp; done) | (simp; omega)) #[] [] rfl 0 rfl (by decide)
                 | exact (Sl.lit gsE _ _ (by first | rfl | (simp; done) | (simp; omega)) #[] [] rfl 0 rfl (by decide)).alloc _
                 | exact ((Sl.lit gsE _ _ (by first | rfl | (simp; done) | (simp; omega)) #[] [] rfl 0 rfl (by decide)).alloc _).alloc _)
               (first
                 | exact (HSG.out.alloc _).rd
                 | exact ((HSG.out.alloc _).alloc _).rd
                 | exact (((HSG.out.alloc _).alloc _).alloc _).rd)
               intro G3 g3 L3 w6 hL3 hs6 ht6 hA6
               have HB6 : Hid (Blk w6 w.heap.size 52 (rfCells { x with buf := x.buf ++ [(x.R + d, v)] } A4 a4 I ci G cg)) := by
                 first
                   | exact ht6.blk (HBK.out.alloc _) (fun e => by simp at e; omega)
                   | exact ht6.blk ((HBK.out.alloc _).alloc _) (fun e => by simp at e; omega)
                   | exact ht6.blk (((HBK.out.alloc _).alloc _).alloc _) (fun e => by simp at e; omega)
               have q1 : w6.cell? ⟨w.heap.size, 1, none⟩ = some (.int .i64 x.H) := HB6.out.cell 1)
            | ((first
                 | (refine stp_gs rfl rfl (l := L3) (l2 := [some w6.heap.size]) rfl rfl ?_ ?_ (by rw [hL3.out]; simp; omega) ?_
                    (first
                      | exact hs6
                      | exact hs6.alloc _
                      | exact (hs6.alloc _).alloc _)
                    (first
                      | exact (Sl.lit gsE _ _ (by first | rfl | (simp; done) | (simp; omega)) _ [some w6.heap.size] rfl 1 rfl (by decide)).rd
                      | exact (Sl.touch (Sl.drew (Sl.lit gsE _ _ (by first | rfl | (simp; done) | (simp; omega)) _ [some w6.heap.size] rfl 1 rfl (by decide))) ht6 (by intro ad e; injection e with e; subst e; intro e2; simp at e2 <;> omega)).rd
                      | exact (Sl.touch (Sl.drew (Sl.alloc (Sl.lit gsE _ _ (by first | rfl | (simp; done) | (simp; omega)) _ [some w6.heap.size] rfl 1 rfl (by decide)) _)) ht6 (by intro ad e; injection e with e; subst e; intro e2; simp at e2 <;> omega)).rd))
                 | (refine stp_gs rfl rfl (l := L3) (l2 := [some (wc.heap.size + 1)]) rfl rfl ?_ ?_ (by rw [hL3.out]; simp; omega) ?_
                    (first
                      | exact hs6
                      | exact hs6.alloc _
                      | exact (hs6.alloc _).alloc _)
                    (first
                      | exact (Sl.lit gsE _ _ (by first | rfl | (simp; done) | (simp; omega)) _ [some (wc.heap.size + 1)] rfl 1 rfl (by decide)).rd
                      | exact (Sl.touch (Sl.drew (Sl.lit gsE _ _ (by first | rfl | (simp; done) | (simp; omega)) _ [some (wc.heap.size + 1)] rfl 1 rfl (by decide))) ht6 (by intro ad e; injection e with e; subst e; intro e2; simp at e2 <;> omega)).rd
                      | exact (Sl.touch (Sl.drew (Sl.alloc (Sl.lit gsE _ _ (by first | rfl | (simp; done) | (simp; omega)) _ [some (wc.heap.size + 1)] rfl 1 rfl (by decide)) _)) ht6 (by intro ad e; injection e with e; subst e; intro e2; simp at e2 <;> omega)).rd))
                 | (refine stp_gs rfl rfl (l := L3) (l2 := [some wc.heap.size]) rfl rfl ?_ ?_ (by rw [hL3.out]; simp; omega) ?_
                    (first
                      | exact hs6
                      | exact hs6.alloc _
                      | exact (hs6.alloc _).alloc _)
                    (first
                      | exact (Sl.lit gsE _ _ (by first | rfl | (simp; done) | (simp; omega)) _ [some wc.heap.size] rfl 1 rfl (by decide)).rd
                      | exact (Sl.touch (Sl.drew (Sl.lit gsE _ _ (by first | rfl | (simp; done) | (simp; omega)) _ [some wc.heap.size] rfl 1 rfl (by decide))) ht6 (by intro ad e; injection e with e; subst e; intro e2; simp at e2 <;> omega)).rd
                      | exact (Sl.touch (Sl.drew (Sl.alloc (Sl.lit gsE _ _ (by first | rfl | (simp; done) | (simp; omega)) _ [some wc.heap.size] rfl 1 rfl (by decide)) _)) ht6 (by intro ad e; injection e with e; subst e; intro e2; simp at e2 <;> omega)).rd)))
               intro G4 g4 L4 w7 hL4 hs7 ht7 hA7
               have HB7 : Hid (Blk w7 w.heap.size 52 (rfCells { x with buf := x.buf ++ [(x.R + d, v)] } A4 a4 I ci G cg)) := by
                 have hne : ¬ (G3.map Addr.block = some w.heap.size) := fun e => by
                   cases hg : G3 with
                   | none => rw [hg] at e; cases e
                   | some ad =>
                     rw [hg] at e
                     injection e with e
                     exact hs6.blk_ne HB6.out (by decide) ad hg e
                 first
                   | exact ht7.blk HB6.out hne
                   | exact ht7.blk (HB6.out.alloc _) hne
                   | exact ht7.blk ((HB6.out.alloc _).alloc _) hne
               have q6 : w7.cell? ⟨w.heap.size, 6, none⟩ = some (.slice G x.gaps.length cg) := HB7.out.cell 6
               have z6 := HB7.out.frozen 6))
          all_goals
            have F6 : Fresh wc w6 := by
              first
                | exact ((Touch.refl _ wc).drew.alloc _).trans ht6 (fun k hk e => by simp at e; omega)
                | exact (((Touch.refl _ wc).drew.alloc _).alloc _).trans ht6 (fun k hk e => by simp at e; omega)
                | exact ((((Touch.refl _ wc).drew.alloc _).alloc _).alloc _).trans ht6 (fun k hk e => by simp at e; omega)
            have hG3 : ∀ k, G3.map Addr.block = some k → wc.heap.size ≤ k := fun k e => by
              rcases hA6 with e1 | e1 <;> (rw [e] at e1; simp at e1; omega)
            have F7 : Fresh wc w7 := by
              first
                | exact F6.trans ht7 (fun k hk e => by have := hG3 k e; omega)
                | exact (F6.alloc _).trans ht7 (fun k hk e => by have := hG3 k e; omega)
                | exact ((F6.alloc _).alloc _).trans ht7 (fun k hk e => by have := hG3 k e; omega)
            have hs6z := F6.size
            have hG4 : ∀ ad, G4 = some ad → wc.heap.size ≤ ad.block := fun ad e => by
              subst e
              rcases hA7 with e1 | e1
              · exact hG3 _ e1.symm
              · simp at e1
                omega
            have hN6 : ¬ (G3.map Addr.block = some w6.heap.size) := fun e => by
              cases hg : G3 with
              | none => rw [hg] at e; cases e
              | some ad =>
                rw [hg] at e
                injection e with e
                have := hs6.lt ad hg
                omega
            have eL4 : ∃ b, wc.heap.size ≤ b ∧ L4 = L ++ [some b] ∧ Blk w7 b 3 [.int .i64 x.H, .int .i64 (x.R + d)] := by
              have e3 : L3 = L := hL3.out
              have e4 := hL4.out
              rw [e3] at e4
              refine ⟨_, ?_, e4, ?_⟩
              · first
                  | exact hs6z
                  | exact Nat.le_refl _
                  | exact Nat.le_succ _
              · first
                  | exact ht7.blk ((Blk.new w6 3 [.int .i64 x.H, .int .i64 (x.R + d)]).alloc _) hN6
                  | exact ht7.blk (Blk.alloc (ht6.blk (Blk.new1 wc.drew _ 3 [.int .i64 x.H, .int .i64 (x.R + d)]) (fun e => by simp at e <;> omega)) _) (fun e => by rcases hA6 with e1 | e1 <;> (rw [e] at e1; simp at e1 <;> omega))
                  | exact ht7.blk (ht6.blk (Blk.alloc (Blk.new1 wc.drew _ 3 [.int .i64 x.H, .int .i64 (x.R + d)]) _) (fun e => by simp at e <;> omega)) (fun e => by rcases hA6 with e1 | e1 <;> (rw [e] at e1; simp at e1 <;> omega))
                  | exact ht7.blk (Blk.alloc (ht6.blk (Blk.alloc (Blk.new wc.drew 3 [.int .i64 x.H, .int .i64 (x.R + d)]) _) (fun e => by simp at e <;> omega)) _) (fun e => by rcases hA6 with e1 | e1 <;> (rw [e] at e1; simp at e1 <;> omega))
                  | exact ht7.blk (ht6.blk (Blk.alloc (Blk.alloc (Blk.new wc.drew 3 [.int .i64 x.H, .int .i64 (x.R + d)]) _) _) (fun e => by simp at e <;> omega)) (fun e => by rcases hA6 with e1 | e1 <;> (rw [e] at e1; simp at e1 <;> omega))
            obtain ⟨b, hb0, rfl, hbb⟩ := eL4
            have hbx := (HB5.out.old F7).gapd hs7 (g := (x.H, x.R + d)) hbb (fun ad e => Nat.le_trans (Nat.le_of_lt hlt5) (hG4 ad e)) (Nat.le_trans (Nat.le_of_lt hlt5) hb0)
            have HX : Hid (RfBox w (w7.setCell ⟨w.heap.size, 6, none⟩ (.slice G4 (L ++ [some b]).length g4)) D A4 a4 I ci G4 g4 (L ++ [some b]) { x with buf := x.buf ++ [(x.R + d, v)], gaps := gs }) := by
              have e : (L ++ [some b]).length = x.gaps.length + 1 := by simp; exact HLL.out
              show RfBox _ _ _ _ _ _ _ _ _ _ _
              rw [e, HGS.out]
              exact hbx
            clear hbx hb0 hbb hN6 hG4 F7 hG3 F6 hs7 ht7 hA7 hs6 ht6 hA6 hL3 hL4 HB6 HB7 q6 z6 q1 k6 k6b k6c k1 HBK HSG HB5 hs6z c0 c1 c2 c3 c4 c5 c6
            go_wp2
            go_meet
            case rel => exact ⟨G4, g4, L ++ [some b], HX⟩
        | false =>
          rw [if_neg (fun h => by have := hq.out.2 h; cases this)] at hgs
          subst hgs
          go_wp2
          go_meet
          case rel => exact ⟨G, cg, L, HB5⟩
      case rest =>
        obtain ⟨G6, g6, L6, HB6⟩ := hcut
        clear c0 c1 c2 c3 c4 c5 c6 HB5 hq
        obtain ⟨c0, c1, c2, c3, c4, c5, c6⟩ := HB6.out.cells
        simp only at c0 c1 c2 c3 c4 c5 c6
        have fb1 := HB6.out.blk.frozen 1
        obtain ⟨y, hy⟩ : ∃ y, y = Rf.lay x (x.R + d) v := ⟨_, rfl⟩
        obtain ⟨H2, hH2⟩ : ∃ H2 : Int, max x.H (x.R + d + 1) = H2 := ⟨_, rfl⟩
        have HB7 : Hid (RfBox w (wc.setCell ⟨w.heap.size, 1, none⟩ (.int .i64 H2)) D A4 a4 I ci G6 g6 L6 y) := by
          rw [hy]
          refine HB6.out.scalar 1 (.int .i64 H2) ?_ rfl rfl ?_
          · rw [← hH2]
            unfold rfCells Rf.lay
            rw [hgs]
            rfl
          · rw [hgs]
            rfl
        rw [← hy] at HDA HLD
        have yR : y.R = x.R := by rw [hy]; rfl
        have yI : y.inbox = x.inbox := by rw [hy]; rfl
        have ylen : y.buf.length ≤ 65 := by
          have : y.buf.length = x.buf.length + 1 := by rw [hy]; simp [Rf.lay]
          have := hbl.out
          omega
        have ynod : (y.buf.map (·.1)).Nodup := HLD.out.1
        obtain ⟨dd, hdd⟩ : ∃ dd, dd = Rf.dl y.buf.length y.R y.buf [] := ⟨_, rfl⟩
        have HDD : Hid (Rf.deliver y = ({ y with R := dd.1, buf := dd.2.1, inbox := y.inbox ++ dd.2.2 }, dd.2.2)) := by
          rw [hdd]
          rfl
        have yil : y.inbox.length ≤ 1000000 := by rw [yI]; exact hil
        have yR0 : 0 ≤ y.R ∧ y.R ≤ 30000000 := by rw [yR]; omega
        have HIL : Hid (∀ ad, I = some ad → ad.block < w.heap.size) := HIW
        clear hgs HB6 hy yI yR HLD HDM hbl t1 d1 HIW
        go_upto_region 8 with (fail)
        clear hH2
        clear c0 c1 c2 c3 c4 c5 c6 fb1
        generalize wc.setCell ⟨w.heap.size, 1, none⟩ (.int .i64 H2) = w7 at *
        go_wp2_with fail
        go_loopw [9, 10] (fun o ag wr => ∃ (k : Nat) (r : Int) (m : List (Int × ByteArray)) (O : List ByteArray) (Am : Option Addr) (cm : Nat) (B : Option Addr) (cB : Nat) (q : Bool), o = .slice B O.length cB ∧ ag = .bool q ∧ Hid (RfBox w wr D Am cm I ci G6 g6 L6 { y with R := r, buf := m }) ∧
          Hid (Mine strE w wr B cB O) ∧ Hid (if q = true then Rf.dl k r m O = dd ∧ m.length ≤ k else (r, m, O) = dd) ∧ Hid ((m.map (·.1)).Nodup) ∧ O.length + m.length ≤ 65 ∧ 0 ≤ r ∧ r ≤ 30000000 + O.length) (fun _ ag wr => 2 * (match wr.cell? ⟨w.heap.size, 4, none⟩ with | some (.slice _ n _) => n | _ => 0) + (match ag with | .bool true => 1 | _ => 0))
        case atStart =>
          refine ⟨y.buf.length, y.R, y.buf, [], A4, a4, some ⟨w7.heap.size, 0, none⟩, 0, true, rfl, rfl, HB7.out.old ((Touch.refl _ _).alloc _), ?_, ?_, ynod, by simp; omega, yR0.1, by simp; omega⟩
          · exact (Mine.lit strE w7 #[] [] rfl 0 rfl (by decide)).back HB7.out.fresh
          · show (if true = true then _ else _)
            rw [if_pos rfl]
            exact ⟨hdd.symm, Nat.le_refl _⟩
        case round =>
          clear HB7 hdd
          obtain ⟨k, r, m, O, Am, cm, B, cB, q, rfl, rfl, HB, HM, HQ, HN, hOm, hr0, hr1⟩ := hrel
          obtain ⟨c0, c1, c2, c3, c4, c5, c6⟩ := HB.out.cells
          simp only at c0 c1 c2 c3 c4 c5 c6
          cases q with
          | false =>
            have HQ2 : Hid ((r, m, O) = dd) := by
              have := HQ.out
              rw [if_neg (by decide)] at this
              exact this
            have HX0 : Hid (Rf.deliver y = ({ y with R := r, buf := m, inbox := y.inbox ++ O }, O)) := by
              show _ = _
              rw [HDD.out, ← HQ2.out]
            have HSI := Lib.hid HB.out.ins.inb
            have hbO : O.length ≤ 65 := by omega
            clear HQ HQ2 HDD
            have c5a : ∀ o, (wr.alloc o).cell? ⟨w.heap.size, 5, none⟩ = some (.slice I y.inbox.length ci) := fun o => (HB.out.blk.alloc o).cell 5
            go_upto_region 25 with (first
              | (at_builtin; refine app_str rfl rfl (l := []) (l2 := y.inbox) rfl rfl (Sl.lit strE _ _ rfl #[] [] rfl _ rfl (by decide)) (Sl.rd (HSI.out.alloc _)) (by simp; omega) ?_; intro A3 a3 L3 w9 hL3 hs3 ht3 hA3; have M3 := Lib.hid ((Mine.lit strE wr #[] [] rfl 0 rfl (by decide)).app hs3 ht3 hA3); clear hs3 ht3 hA3 c5a)
              | (at_builtin; refine app_str rfl rfl (l := L3) (l2 := O) rfl rfl M3.out.sl (Sl.rd (M3.out.keeps HM.out.sl)) (by rw [hL3.out]; simp; omega) ?_; intro A4 a4 L4 w10 hL4 hs4 ht4 hA4; have M4 := Lib.hid (M3.out.app hs4 ht4 hA4); have HB10 := Lib.hid (HB.out.old M4.out.fresh); have cc5 := HB10.out.cells.2.2.2.2.2.1; have fb5 := HB10.out.blk.frozen 5; clear hs4 ht4 hA4 c0 c1 c2 c3 c4 c5 c6))
            have HB11 := Lib.hid (HB10.out.inbd M4.out.sl (fun ad e => Nat.le_trans HB.out.fresh.size (M4.out.base ad e)))
            have HMO : Hid (Sl strE (w10.setCell ⟨w.heap.size, 5, none⟩ (.slice A4 L4.length a4)) B cB O) := (M4.out.keeps HM.out.sl).setCell (p := ⟨w.heap.size, 5, none⟩) (Sl.blk_ne (M4.out.keeps HM.out.sl) HB10.out.blk (by decide)) _
            have HMB := Lib.hid HM.out.base
            have eL4 : L4 = y.inbox ++ O := by rw [hL4.out, hL3.out]; rfl
            clear cc5 fb5 HB10 HB M4 M3 HSI HM hL3 hL4
            subst eL4
            generalize w10.setCell ⟨w.heap.size, 5, none⟩ (.slice A4 (y.inbox ++ O).length a4) = w11 at *
            obtain ⟨c0, c1, c2, c3, c4, c5, c6⟩ := HB11.out.cells
            obtain ⟨z0, z1, z2, z3, z4, z5, z6⟩ := HB11.out.zeros
            simp only at c0 c1 c2 c3 c4 c5 c6
            have fz := fun i => HB11.out.res.frozen i
            have HX : Hid (∀ W, Touch (· = w.heap.size + 1) w11 W → RfDataPost w D (Rf.data x n v).1 (Rf.data x n v).2 (.returned (.tuple #[.agg #[.int .i64 r, .int .i64 y.H, .int .i64 y.MR, .int .i64 y.window, .slice Am m.length cm, .slice A4 (y.inbox ++ O).length a4, .slice G6 y.gaps.length g6], .slice B O.length cB])) W) := fun W hf => by
              rw [HDA.out, HX0.out]
              obtain ⟨e1, e2, e3⟩ := HB11.out.done hf
              exact ⟨Am, cm, A4, a4, G6, g6, L6, B, cB, rfl, e1, e2, e3, HMO.out.touch hf (fun ad e e2 => HMO.out.blk_ne HB11.out.res (by decide) ad e e2), HMB.out⟩
            clear HB11 HMO HMB HX0 HN HDA
            go_wp2
            refine bodyPost_ret (v := .tuple #[.agg #[.int .i64 r, .int .i64 y.H, .int .i64 y.MR, .int .i64 y.window, .slice Am m.length cm, .slice A4 (y.inbox ++ O).length a4, .slice G6 y.gaps.length g6], .slice B O.length cB]) (by simp [results, Try.results28, go_sem, z0, z1, z2, z3, z4, z5, z6]) rfl (HX.out _ ?_)
            repeat (first | with_reducible refine Touch.st ?_ rfl | with_reducible exact Touch.refl _ _)
          | true =>
            have HQ2 : Hid (Rf.dl k r m O = dd ∧ m.length ≤ k) := by
              have := HQ.out
              rw [if_pos rfl] at this
              exact this
            have HMS : Hid ((match wr.cell? ⟨w.heap.size, 4, none⟩ with | some (.slice _ n _) => n | _ => 0) = m.length) := by
              show _ = _
              rw [c4]
            clear HQ
            have c4a : ∀ o, (wr.alloc o).cell? ⟨w.heap.size, 4, none⟩ = some (.slice Am m.length cm) := fun o => (HB.out.blk.alloc o).cell 4
            go_wp2_with fail
            clear c4a
            have HB2 := Lib.hid (HB.out.old ((Touch.refl (fun _ => False) wr).alloc (.cells #[] 98)))
            have HM2 := Lib.hid (HM.out.alloc (.cells #[] 98))
            have HT2 : Hid (Sl itemE (wr.alloc (.cells #[] 98)) (some ⟨wr.heap.size, 0, none⟩) 0 []) := Sl.lit itemE _ _ rfl #[] [] rfl 0 rfl (by decide)
            have hAm : Hid (∀ ad, Am = some ad → ad.block < wr.heap.size) := HB.out.ins.buf.lt
            have hws : w.heap.size ≤ wr.heap.size := HB.out.fresh.size
            have hmc := HB.out.ins.buf.1
            have hmm := HB.out.ins.buf.2.1
            unfold maxLen at hmm
            simp only at hmc
            have hw8 : wr.heap.size ≤ (wr.alloc (.cells #[] 98)).heap.size := by simp
            clear HB HM c0 c1 c2 c3 c4 c5 c6
            obtain ⟨b0, hb0⟩ : ∃ b0, b0 = wr.heap.size := ⟨_, rfl⟩
            rw [← hb0] at hAm hws hw8 HT2 ⊢
            generalize wr.alloc (.cells #[] 98) = w8 at *
            clear hb0
            go_loopw [9, 10, 11, 74] (fun o ag rs i wx => ∃ (j : Nat) (B' : Option Addr) (c' : Nat) (O' : List ByteArray) (T : Option Addr) (cT : Nat) (M : List (Int × ByteArray)) (q : Bool), j ≤ m.length ∧ i = .int .i64 j ∧ o = .slice B' O'.length c' ∧ ag = .bool q ∧ rs = .slice T M.length cT ∧ Hid (RfBox w wx D Am cm I ci G6 g6 L6 { y with R := r, buf := m }) ∧
              Hid (Mine strE w wx B' c' O') ∧ Hid (Sl itemE wx T cT M ∧ (∀ ad, T = some ad → b0 ≤ ad.block) ∧ b0 ≤ wx.heap.size) ∧ Hid (M = mdel (m.take j) r) ∧ Hid (O' = O ++ (mget (m.take j) r).toList ∧ q = (mget (m.take j) r).isSome) ∧ O'.length ≤ 65 ∧ M.length ≤ 65) (fun _ _ _ i _ => m.length - (intOf i).toNat)
            case atStart =>
              exact ⟨0, B, cB, O, some ⟨b0, 0, none⟩, 0, [], false, by omega, rfl, rfl, rfl, rfl, HB2, HM2, ⟨HT2.out, (fun ad e => by injection e with e; subst e; exact Nat.le_refl _), hw8⟩, rfl, ⟨by simp [mget], rfl⟩, by omega, by simp⟩
            case round =>
              clear HB2 HM2 HT2
              obtain ⟨j, B', c', O', T, cT, M, q, hj, rfl, rfl, rfl, rfl, HB, HM, HT, HD, HO2, hO65, hM65⟩ := hrel
              by_cases hlt : j < m.length
              · obtain ⟨gi, oi, rfl, hgi, i0, i1⟩ := HB.out.ins.buf.item_at j hlt
                have hjl : (j : Int) < (m.length : Int) := by omega
                have hj0 : (0 : Int) ≤ (j : Int) := by omega
                have HY : Hid (m.take (j + 1) = m.take j ++ [m.getD j (0, ByteArray.empty)]) := by
                  have e : m.getD j (0, ByteArray.empty) = m[j] := by simp [List.getD, List.getElem?_eq_getElem hlt]
                  rw [e]
                  exact List.take_succ_eq_append_getElem hlt
                have HU : Hid (∀ u, mget (m.take j) r = some u → (m.getD j (0, ByteArray.empty)).1 ≠ r) := fun u hu => Rf.mget_once HN.out hlt hu
                have hMl : (mdel (m.take (j + 1)) r).length ≤ 65 := by
                  refine Nat.le_trans (List.length_filter_le _ _) ?_
                  simp
                  omega
                simp only at i0 i1
                generalize m.getD j (0, ByteArray.empty) = yy at *
                obtain ⟨y1, y2⟩ := yy
                simp only at i0 i1 HU
                have c0a : ∀ o, (wr.alloc o).cell? ⟨w.heap.size, 0, none⟩ = some (.int .i64 r) := fun o => (HB.out.blk.alloc o).cell 0
                have f2 : Fresh wr ((wr.alloc (.cells #[.int .i64 y1, .string y2] 98)).alloc (.cells #[.int .i64 y1, .string y2] 98)) := ((Touch.refl _ _).alloc _).alloc _
                have f3 : Fresh wr ((wr.alloc (.cells #[.int .i64 y1, .string y2] 98)).alloc (.cells #[.string y2] 9)) := ((Touch.refl _ _).alloc _).alloc _
                have HF2 := Lib.hid f2
                have HF3 := Lib.hid f3
                clear f2 f3
                cases hg : mget (m.take j) r with
                | some u =>
                  obtain ⟨ho, hq⟩ := HO2.out
                  rw [hg] at ho hq
                  have hq' : q = true := hq
                  subst hq'
                  have hyr := HU.out u hg
                  have HN2 : Hid (mdel (m.take (j + 1)) r = M ++ [(y1, y2)] ∧ mget (m.take (j + 1)) r = some u) := by
                    rw [HY.out, Rf.mdel_snoc, Rf.mget_snoc, hg, if_neg hyr, ← HD.out]
                    exact ⟨rfl, rfl⟩
                  have HO3 : Hid (O' = O ++ [u]) := ho
                  clear HY HU hyr hg HO2 HD ho hq
                  go_wp2_with (at_builtin; refine app_item rfl rfl (l := M) (l2 := [(y1, y2)]) rfl rfl ((HT.out.1.alloc _).alloc _) (Sl.rd (Sl.lit itemE _ _ (by first | rfl | simp) _ _ rfl _ rfl (by decide))) (by simp; omega) ?_; intro T2 t2 M2 w9 hM2 hs2 ht2 hT2)
                  obtain ⟨e1, e2, e3⟩ := HB.out.restEnd HM.out HT.out HF2.out hAm.out hws hs2 ht2 hT2
                  have HB9 := Lib.hid e1
                  have HM9 := Lib.hid e2
                  have HT9 := Lib.hid e3
                  have HE : Hid (M2 = mdel (m.take (j + 1)) r) := hM2.out.trans HN2.out.1.symm
                  have hl2 : M2.length ≤ 65 := by rw [HE.out]; exact hMl
                  have HO4 : Hid (O' = O ++ (mget (m.take (j + 1)) r).toList ∧ true = (mget (m.take (j + 1)) r).isSome) := by
                    rw [HN2.out.2]
                    exact ⟨HO3.out, rfl⟩
                  clear e1 e2 e3 hs2 ht2 hT2 hM2 HB HM HT HF2 HF3 HN2 HO3 hMl
                  go_roundw
                  case rel => exact ⟨j + 1, B', c', O', T2, t2, M2, true, by omega, by go_num, rfl, rfl, rfl, HB9, HM9, HT9, HE, HO4, hO65, hl2⟩
                  case measure => simp [intOf]; omega
                | none =>
                  obtain ⟨ho, hq⟩ := HO2.out
                  rw [hg] at ho hq
                  have hq' : q = false := hq
                  subst hq'
                  have ho' : O' = O := by simpa using ho
                  by_cases hyr : y1 = r
                  · have hb : (y1 == r) = true := by simpa using hyr
                    have HN2 : Hid (mdel (m.take (j + 1)) r = M ∧ mget (m.take (j + 1)) r = some y2) := by
                      rw [HY.out, Rf.mdel_snoc, Rf.mget_snoc, hg, if_pos hyr, if_pos hyr, ← HD.out]
                      exact ⟨by simp, rfl⟩
                    have HO3 : Hid (O' = O) := ho'
                    have hlO : O'.length + 1 ≤ 65 := by rw [ho']; omega
                    clear HY HU hyr hg HO2 HD ho hq ho'
                    go_wp2_with (at_builtin; refine app_str rfl rfl (l := O') (l2 := [y2]) rfl rfl ((HM.out.sl.alloc _).alloc _) (Sl.rd (Sl.lit strE _ _ (by first | rfl | simp) _ _ rfl _ rfl (by decide))) (by simp; omega) ?_; intro B2 d2 O2 w9 hO2 hs2 ht2 hB2)
                    obtain ⟨e1, e2, e3⟩ := HB.out.outEnd HM.out HT.out HF3.out HIL.out hs2 ht2 hB2
                    have HB9 := Lib.hid e1
                    have HM9 := Lib.hid e2
                    have HT9 := Lib.hid e3
                    have hl2 : O2.length ≤ 65 := by rw [hO2.out]; simp; omega
                    have HE : Hid (M = mdel (m.take (j + 1)) r) := HN2.out.1.symm
                    have HO4 : Hid (O2 = O ++ (mget (m.take (j + 1)) r).toList ∧ true = (mget (m.take (j + 1)) r).isSome) := by
                      rw [HN2.out.2, hO2.out, HO3.out]
                      exact ⟨rfl, rfl⟩
                    clear e1 e2 e3 hs2 ht2 hB2 hO2 HB HM HT HF2 HF3 HN2 HO3 hMl
                    go_roundw
                    case rel => exact ⟨j + 1, B2, d2, O2, T, cT, M, true, by omega, by go_num, rfl, rfl, rfl, HB9, HM9, HT9, HE, HO4, hl2, hM65⟩
                    case measure => simp [intOf]; omega
                  · have hb : (y1 == r) = false := by simpa using hyr
                    have HN2 : Hid (mdel (m.take (j + 1)) r = M ++ [(y1, y2)] ∧ mget (m.take (j + 1)) r = none) := by
                      rw [HY.out, Rf.mdel_snoc, Rf.mget_snoc, hg, if_neg hyr, if_neg hyr, ← HD.out]
                      exact ⟨rfl, rfl⟩
                    have HO3 : Hid (O' = O) := ho'
                    clear HY HU hyr hg HO2 HD ho hq ho'
                    go_wp2_with (at_builtin; refine app_item rfl rfl (l := M) (l2 := [(y1, y2)]) rfl rfl ((HT.out.1.alloc _).alloc _) (Sl.rd (Sl.lit itemE _ _ (by first | rfl | simp) _ _ rfl _ rfl (by decide))) (by simp; omega) ?_; intro T2 t2 M2 w9 hM2 hs2 ht2 hT2)
                    obtain ⟨e1, e2, e3⟩ := HB.out.restEnd HM.out HT.out HF2.out hAm.out hws hs2 ht2 hT2
                    have HB9 := Lib.hid e1
                    have HM9 := Lib.hid e2
                    have HT9 := Lib.hid e3
                    have HE : Hid (M2 = mdel (m.take (j + 1)) r) := hM2.out.trans HN2.out.1.symm
                    have hl2 : M2.length ≤ 65 := by rw [HE.out]; exact hMl
                    have HO4 : Hid (O' = O ++ (mget (m.take (j + 1)) r).toList ∧ false = (mget (m.take (j + 1)) r).isSome) := by
                      rw [HN2.out.2, HO3.out]
                      exact ⟨by simp, rfl⟩
                    clear e1 e2 e3 hs2 ht2 hT2 hM2 HB HM HT HF2 HF3 HN2 HO3 hMl
                    go_roundw
                    case rel => exact ⟨j + 1, B', c', O', T2, t2, M2, false, by omega, by go_num, rfl, rfl, rfl, HB9, HM9, HT9, HE, HO4, hO65, hl2⟩
                    case measure => simp [intOf]; omega
              · obtain rfl : j = m.length := by omega
                rw [List.take_length] at HD HO2
                have hjl : ¬ ((m.length : Int) < (m.length : Int)) := by omega
                have fb4 := HB.out.blk.frozen 4
                have fb0 := HB.out.blk.frozen 0
                have k4 : wr.cell? ⟨w.heap.size, 4, none⟩ = some (.slice Am m.length cm) := HB.out.blk.cell 4
                have k0 : wr.cell? ⟨w.heap.size, 0, none⟩ = some (.int .i64 r) := HB.out.blk.cell 0
                have HB9 := Lib.hid (HB.out.bufd HT.out.1 (fun ad e => Nat.le_trans hws (HT.out.2.1 ad e)))
                have HM9 := Lib.hid (HM.out.own (Touch.set1 wr w.heap.size 4 (.slice T M.length cT)) (fun k e => by omega) (fun ad e => HM.out.sl.blk_ne HB.out.blk (by decide) ad e))
                clear HT hAm hmc hmm
                cases hg : mget m r with
                | none =>
                  obtain ⟨ho, hq⟩ := HO2.out
                  rw [hg] at ho hq
                  have hq' : q = false := hq
                  subst hq'
                  have ho' : O' = O := by simpa using ho
                  have hM' : M = m := by rw [HD.out]; exact mdel_out m r (mget_none.1 hg)
                  have HQ3 : Hid ((r, m, O') = dd) := by
                    rw [ho', ← HQ2.out.1, Rf.dl_none hg]
                    rfl
                  have hO1 : O'.length + m.length ≤ 65 := by rw [ho']; exact hOm
                  have hO2 : r ≤ 30000000 + O'.length := by rw [ho']; exact hr1
                  clear HB HM HO2 HD ho hq ho' hg HQ2
                  subst hM'
                  go_wp2
                  generalize wr.setCell ⟨w.heap.size, 4, none⟩ (.slice T M.length cT) = w9 at *
                  have k9 : w9.cell? ⟨w.heap.size, 4, none⟩ = some (.slice T M.length cT) := HB9.out.blk.cell 4
                  go_roundw
                  case rel => exact ⟨0, r, M, O', T, cT, B', c', false, rfl, rfl, HB9, HM9, (by show (if false = true then _ else _); rw [if_neg (by decide)]; exact HQ3.out), HN, hO1, hr0, hO2⟩
                  case measure =>
                    rw [HMS.out, k9]
                    simp only
                    omega
                | some u =>
                  obtain ⟨ho, hq⟩ := HO2.out
                  rw [hg] at ho hq
                  have hq' : q = true := hq
                  subst hq'
                  have ho' : O' = O ++ [u] := ho
                  have hml := mdel_len m r HN.out hg
                  rw [← HD.out] at hml
                  have hkl := HQ2.out.2
                  obtain ⟨k', rfl⟩ : ∃ k', k = k' + 1 := ⟨k - 1, by omega⟩
                  have HQ3 : Hid (Rf.dl k' (r + 1) M O' = dd ∧ M.length ≤ k') := by
                    refine ⟨?_, by omega⟩
                    rw [← HQ2.out.1, Rf.dl_some hg, ho', HD.out]
                  have HN3 : Hid ((M.map (·.1)).Nodup) := by
                    rw [HD.out]
                    exact nodup_mdel HN.out r
                  have hO1 : O'.length + M.length ≤ 65 := by rw [ho']; simp; omega
                  have hO2 : r + 1 ≤ 30000000 + O'.length := by rw [ho']; simp; omega
                  have HBX := Lib.hid (HB9.out.scalar (x' := { y with R := r + 1, buf := M }) 0 (.int .i64 (r + 1)) rfl rfl rfl rfl)
                  have HMX := Lib.hid (HM9.out.own (Touch.set1 _ w.heap.size 0 (.int .i64 (r + 1))) (fun k e => by omega) (fun ad e => HM9.out.sl.blk_ne HB9.out.blk (by decide) ad e))
                  clear HB HM HO2 HD ho hq ho' hg HQ2
                  have hr9 : r ≤ 40000000 := by omega
                  go_wp2
                  generalize (wr.setCell ⟨w.heap.size, 4, none⟩ (.slice T M.length cT)).setCell ⟨w.heap.size, 0, none⟩ (.int .i64 (r + 1)) = w9 at *
                  have k9 : w9.cell? ⟨w.heap.size, 4, none⟩ = some (.slice T M.length cT) := HBX.out.blk.cell 4
                  go_roundw
                  case rel => exact ⟨k', r + 1, M, O', T, cT, B', c', true, rfl, rfl, HBX, HMX, (by show (if true = true then _ else _); rw [if_pos rfl]; exact HQ3.out), HN3, hO1, by omega, hO2⟩
                  case measure =>
                    rw [HMS.out, k9]
                    simp only
                    omega
end Go.Proofs.Ytpjmgdoekeknjaa

/-
  node.Node: an end without an epoch: Next, Quiet. No conditions.
-/
import Derived.Test.YtimhjdepngmejaaGreatNdB
import Derived.Deep.CutBlock
namespace Go.Proofs.YtimhjdepngmejaaGreat
open Go.RowKit
set_option maxRecDepth 20000

/-- A box of a unit's is apart from an end. -/
theorem ndone {w w' : World} {n cn pc un : Nat} {bu : Option Nat} {A B : Option Addr} {ca cl r : Nat} {st : Nd.S} {cs : List Value} (h : NodeIn w n cn pc un bu A ca B cl st) (ht : Touch (fun k => k = r) w w') (hb : Blk w r 67 cs) (ha : ∀ ad, A = some ad → ad.block ≠ r := by assumption) (hu : ∀ k, bu = some k → k ≠ r := by assumption) : NodeIn w' n cn pc un bu A ca B cl st :=
  h.touch ht (Blk.ne_ h.blk hb (by decide)) (Blk.ne_ h.conn hb (by decide)) (Blk.ne_ h.pace.2.2 hb (by decide)) (fun e => by obtain ⟨A', c', a', buf, b1, _⟩ := h.units; exact b1.ne_ hb (by decide) e) hu ha (h.left.blk_ne hb (by decide))
section
variable {w : World} {n cn pc un : Nat} {bu : Option Nat} {A B : Option Addr} {ca cl : Nat} {st : Nd.S}
set_option maxHeartbeats 4000000 in
/-- What is due of the connection goes out first. -/
theorem nnext_ctl (h : NodeIn w n cn pc un bu A ca B cl st) (u : Cn.Pd) (r : List Cn.Pd) (hc : st.ctl = u :: r) (hr : r.length ≤ 1000) :
    Calls Tryz.prog 18 #[.pointer (some ⟨n, 0, none⟩)] w fun e w' => ∃ A' ca', e = .returned (.tuple #[pduV u, .bool true]) ∧ NodeIn w' n cn pc un bu A' ca' B cl { st with ctl := r } ∧ Touch (· = n) w w' ∧ ∀ ad, A' = some ad → w.heap.size ≤ ad.block := by
  have hs := h.ctl
  rw [hc] at hs
  obtain ⟨g, o, rfl, hg, hcl⟩ := hs.at_ 0 (by simp)
  have hca := hs.1
  have hcm := hs.2.1
  unfold maxLen at hcm
  rw [List.length_cons] at hca
  have c15 : ∀ W, Fresh w W → W.cell? ⟨n, 15, none⟩ = some (.slice (some ⟨g, o, none⟩) (r.length + 1) ca) := fun W hW => by
    have := (hW.blk h.blk (fun e => e)).cell 15
    rw [show (st.cells cn pc un (some ⟨g, o, none⟩) ca B cl)[15]? = some (.slice (some ⟨g, o, none⟩) st.ctl.length ca) from rfl, hc] at this
    exact this
  have hel : ∀ W, Fresh w W → ∀ f v, [Value.int .i64 u.kind, .int .i64 u.sq, .int .u32 u.n, .int .u32 u.ps, .int .u32 u.mr, .slice u.lA u.ln u.lc, .bool u.self, .string u.data][f]? = some v → W.cell? ⟨g, o + f, none⟩ = some v := fun W hW f v hv => by
    obtain ⟨g', o', e, _, hh⟩ := (hs.touch hW (fun _ _ e => e)).at_ 0 (by simp)
    injection e with e
    injection e with e1 e2 _
    subst e1 e2
    have := hh f v hv
    rw [Nat.zero_mul, Nat.zero_add] at this
    exact this
  obtain ⟨G2, hG2⟩ : ∃ G2, (if ca = 1 then some (⟨g, o, none⟩ : Addr) else some ⟨g, o + 8, none⟩) = G2 := ⟨_, rfl⟩
  have HS1 : Hid (∀ W, Fresh w W → Sl pduE W G2 (ca - 1) r) := fun W hf => by
    have := (hs.touch hf (fun _ _ h => h)).from_ (k := 1) (by simp)
    rw [← hG2]
    by_cases h1 : ca = 1
    · rw [if_pos h1] at this ⊢
      exact this
    · rw [if_neg h1] at this ⊢
      simpa [Addr.add_lit, pduE] using this
  have HG2 : Hid (∀ ad, G2 = some ad → ad.block = g) := fun ad e => by
    rw [← hG2] at e
    split at e <;> (injection e with e; subst e; rfl)
  have HC15 := Lib.hid c15
  have HEL := Lib.hid hel
  have HH := Lib.hid h
  have hlt := h.blk.lt
  obtain ⟨w0, hw0⟩ : ∃ w0, w0 = w.alloc (.cells #[.int .i64 0, .int .i64 0, .int .u32 0, .int .u32 0, .int .u32 0, .slice none 0 0, .bool false, .string { data := #[] }] 67) := ⟨_, rfl⟩
  have HF0 : Hid (Fresh w w0) := by rw [hw0]; exact (Touch.refl _ _).alloc _
  obtain ⟨r2, hr2⟩ : ∃ r2, r2 = w.heap.size := ⟨_, rfl⟩
  have HB2 : Hid (Blk w0 r2 67 [.int .i64 0, .int .i64 0, .int .u32 0, .int .u32 0, .int .u32 0, .slice none 0 0, .bool false, .string { data := #[] }]) := by rw [hw0, hr2]; exact Blk.new w _ _
  have HZ0 : Hid (w0.heap.size = r2 + 1) := by rw [hw0, hr2]; unfold Hid; simp
  have HR2 : Hid (w.heap.size ≤ r2) := Nat.le_of_eq hr2.symm
  obtain ⟨N, hN⟩ : ∃ N, r.length = N := ⟨_, rfl⟩
  have HN := Lib.hid hN
  have d15 := c15 w0 HF0.out
  rw [hN] at d15 hca hr
  have d0 : w0.cell? ⟨g, o, none⟩ = some (.int .i64 u.kind) := hel w0 HF0.out 0 _ rfl
  have d1 : w0.cell? ⟨g, o + 1, none⟩ = some (.int .i64 u.sq) := hel w0 HF0.out 1 _ rfl
  have d2 : w0.cell? ⟨g, o + 2, none⟩ = some (.int .u32 u.n) := hel w0 HF0.out 2 _ rfl
  have d3 : w0.cell? ⟨g, o + 3, none⟩ = some (.int .u32 u.ps) := hel w0 HF0.out 3 _ rfl
  have d4 : w0.cell? ⟨g, o + 4, none⟩ = some (.int .u32 u.mr) := hel w0 HF0.out 4 _ rfl
  have d5 : w0.cell? ⟨g, o + 5, none⟩ = some (.slice u.lA u.ln u.lc) := hel w0 HF0.out 5 _ rfl
  have d6 : w0.cell? ⟨g, o + 6, none⟩ = some (.bool u.self) := hel w0 HF0.out 6 _ rfl
  have d7 : w0.cell? ⟨g, o + 7, none⟩ = some (.string u.data) := hel w0 HF0.out 7 _ rfl
  have n1 : ¬ n = r2 := by omega
  have n2 : ¬ r2 = n := by omega
  have hlz : (0 : Int) < (N : Int) + 1 := by omega
  have hdz : decide ((0 : Int) < (N : Int) + 1) = true := decide_eq_true hlz
  have h1c : (1 : Int) ≤ (N : Int) + 1 := by omega
  have hNc : (N : Int) + 1 ≤ (ca : Int) := by omega
  clear h hs hcl c15 hel hN
  by_cases h1 : ca = 1
  · rw [if_pos h1] at hG2
    subst h1
    have hN0 : N = 0 := by omega
    subst hN0
    subst hG2
    go_enter Tryz.func18, Tryz.ntmps18
    go_upto_region 1 with (fail)
    rw [← hw0, ← hr2]
    clear hw0 hr2
    go_upto_region 3 with (fail)
    obtain ⟨w1, hw1⟩ : ∃ w1, w1 = w0.alloc (.cells #[.int .i64 u.kind, .int .i64 u.sq, .int .u32 u.n, .int .u32 u.ps, .int .u32 u.mr, .slice u.lA u.ln u.lc, .bool u.self, .string u.data] 67) := ⟨_, rfl⟩
    obtain ⟨r4, hr4⟩ : ∃ r4, r4 = w0.heap.size := ⟨_, rfl⟩
    have HF1 : Hid (Fresh w w1) := by rw [hw1]; exact HF0.out.alloc _
    have HB4 : Hid (Blk w1 r4 67 [.int .i64 u.kind, .int .i64 u.sq, .int .u32 u.n, .int .u32 u.ps, .int .u32 u.mr, .slice u.lA u.ln u.lc, .bool u.self, .string u.data]) := by rw [hw1, hr4]; exact Blk.new w0 _ _
    have HB2' : Hid (Blk w1 r2 67 [.int .i64 0, .int .i64 0, .int .u32 0, .int .u32 0, .int .u32 0, .slice none 0 0, .bool false, .string { data := #[] }]) := by rw [hw1]; exact HB2.out.alloc _
    have e15 := HC15.out w1 HF1.out
    rw [HN.out] at e15
    have n3 : ¬ n = r4 := by have := HZ0.out; have := HR2.out; omega
    have n4 : ¬ r4 = n := by have := HZ0.out; have := HR2.out; omega
    have n5 : ¬ r2 = r4 := by have := HZ0.out; have := HR2.out; omega
    have n6 : ¬ r4 = r2 := by have := HZ0.out; have := HR2.out; omega
    rw [← hw1, ← hr4]
    clear hw1 hr4 HB2 d0 d1 d2 d3 d4 d5 d6 d7 d15
    go_wp2_with fail
    have HCL := clonePdu_any _ _ r w1 (HS1.out w1 HF1.out).rd (by rw [HN.out]; omega)
    rw [HN.out] at HCL
    refine HCL.mono ?_
    rintro e w3 ⟨A3, c3, rfl, s3, f3, b3⟩
    have HS3 := Lib.hid s3
    have HF3 : Hid (Fresh w w3) := HF1.out.trans f3 (fun _ _ e => e)
    have HB4' := Lib.hid (f3.blk HB4.out (fun e => e))
    have HB2'' := Lib.hid (f3.blk HB2'.out (fun e => e))
    have HA3 : Hid (∀ ad, A3 = some ad → w.heap.size ≤ ad.block) := fun ad e => Nat.le_trans HF1.out.size (b3 ad e)
    have HH3 := Lib.hid (HH.out.old HF3.out)
    have hA2 : ∀ ad, A3 = some ad → ad.block ≠ r2 := fun ad e => by have := b3 ad e; have := HB2'.out.lt; omega
    have HA2 := Lib.hid hA2
    clear hA2
    have l15 : w3.cell? ⟨n, 15, none⟩ = some (.slice (some ⟨g, o, none⟩) (1) 1) := by
      have := HC15.out w3 HF3.out
      rw [HN.out] at this
      exact this
    have f15 := HH3.out.blk.frozen 15
    clear s3 f3 b3 HCL e15 HB4 HB2'
    simp only
    go_upto_region 4 with (fail)
    obtain ⟨w4, hw4⟩ : ∃ w4, w4 = w3.setCell ⟨n, 15, none⟩ (.slice A3 0 c3) := ⟨_, rfl⟩
    have HI4 : Hid (NodeIn w4 n cn pc un bu A3 c3 B cl { st with ctl := r }) := by
      rw [hw4]
      refine HH3.out.st1 15 _ ?_ rfl rfl rfl rfl HS3.out HH3.out.left (fun ad k e1 e2 e3 => ?_)
      · show _ = Nd.S.cells { st with ctl := r } cn pc un A3 c3 B cl
        unfold Nd.S.cells
        simp only [HN.out]
        rfl
      · have h1 := HA3.out ad e1
        obtain ⟨Ar, cr, ar, buf, -, bs, be, -⟩ := HH.out.units
        rw [e2] at be
        cases Ar with
        | none => cases be
        | some ar' =>
          injection be with be
          have := bs.lt ar' rfl
          omega
    have HT4 : Hid (Touch (· = n) w w4) := by rw [hw4]; exact ((Touch.mono HF3.out (fun _ _ e => e.elim)).st rfl)
    have HB6 : Hid (Blk w4 r4 67 [.int .i64 u.kind, .int .i64 u.sq, .int .u32 u.n, .int .u32 u.ps, .int .u32 u.mr, .slice u.lA u.ln u.lc, .bool u.self, .string u.data]) := by rw [hw4]; exact HB4'.out.far n4 _
    have HB5 : Hid (Blk w4 r2 67 [.int .i64 0, .int .i64 0, .int .u32 0, .int .u32 0, .int .u32 0, .slice none 0 0, .bool false, .string { data := #[] }]) := by rw [hw4]; exact HB2''.out.far n2 _
    rw [← hw4]
    clear hw4 l15 f15
    have k0 : w4.cell? ⟨r4, 0, none⟩ = some (.int .i64 u.kind) := HB6.out.cell 0
    have k1 : w4.cell? ⟨r4, 1, none⟩ = some (.int .i64 u.sq) := HB6.out.cell 1
    have k2 : w4.cell? ⟨r4, 2, none⟩ = some (.int .u32 u.n) := HB6.out.cell 2
    have k3 : w4.cell? ⟨r4, 3, none⟩ = some (.int .u32 u.ps) := HB6.out.cell 3
    have k4 : w4.cell? ⟨r4, 4, none⟩ = some (.int .u32 u.mr) := HB6.out.cell 4
    have k5 : w4.cell? ⟨r4, 5, none⟩ = some (.slice u.lA u.ln u.lc) := HB6.out.cell 5
    have k6 : w4.cell? ⟨r4, 6, none⟩ = some (.bool u.self) := HB6.out.cell 6
    have k7 : w4.cell? ⟨r4, 7, none⟩ = some (.string u.data) := HB6.out.cell 7
    have j0 : w4.cell? ⟨r2, 0, none⟩ = some (.int .i64 0) := HB5.out.cell 0
    have j1 : w4.cell? ⟨r2, 1, none⟩ = some (.int .i64 0) := HB5.out.cell 1
    have j2 : w4.cell? ⟨r2, 2, none⟩ = some (.int .u32 0) := HB5.out.cell 2
    have j3 : w4.cell? ⟨r2, 3, none⟩ = some (.int .u32 0) := HB5.out.cell 3
    have j4 : w4.cell? ⟨r2, 4, none⟩ = some (.int .u32 0) := HB5.out.cell 4
    have j5 : w4.cell? ⟨r2, 5, none⟩ = some (.slice none 0 0) := HB5.out.cell 5
    have j6 : w4.cell? ⟨r2, 6, none⟩ = some (.bool false) := HB5.out.cell 6
    have j7 : w4.cell? ⟨r2, 7, none⟩ = some (.string { data := #[] }) := HB5.out.cell 7
    have q0 := HB5.out.frozen 0
    have q1 := HB5.out.frozen 1
    have q2 := HB5.out.frozen 2
    have q3 := HB5.out.frozen 3
    have q4 := HB5.out.frozen 4
    have q5 := HB5.out.frozen 5
    have q6 := HB5.out.frozen 6
    have q7 := HB5.out.frozen 7
    have HBF := Lib.hid (HB5.out.set8 (.int .i64 u.kind) (.int .i64 u.sq) (.int .u32 u.n) (.int .u32 u.ps) (.int .u32 u.mr) (.slice u.lA u.ln u.lc) (.bool u.self) (.string u.data))
    have HTN : Hid (∀ x0 x1 x2 x3 x4 x5 x6 x7, Touch (fun k => k = r2) w4 ((((((((w4.setCell ⟨r2, 0, none⟩ x0).setCell ⟨r2, 1, none⟩ x1).setCell ⟨r2, 2, none⟩ x2).setCell ⟨r2, 3, none⟩ x3).setCell ⟨r2, 4, none⟩ x4).setCell ⟨r2, 5, none⟩ x5).setCell ⟨r2, 6, none⟩ x6).setCell ⟨r2, 7, none⟩ x7)) := fun x0 x1 x2 x3 x4 x5 x6 x7 => ((((((((Touch.refl (fun k => k = r2) w4).st rfl).st rfl).st rfl).st rfl).st rfl).st rfl).st rfl).st rfl
    have HTT := Lib.hid (HTN.out (.int .i64 u.kind) (.int .i64 u.sq) (.int .u32 u.n) (.int .u32 u.ps) (.int .u32 u.mr) (.slice u.lA u.ln u.lc) (.bool u.self) (.string u.data))
    clear HTN
    go_wp2
    have e0 := HBF.out.cell 0
    have e1 := HBF.out.cell 1
    have e2 := HBF.out.cell 2
    have e3 := HBF.out.cell 3
    have e4 := HBF.out.cell 4
    have e5 := HBF.out.cell 5
    have e6 := HBF.out.cell 6
    have e7 := HBF.out.cell 7
    simp only [List.getElem?_cons_zero, List.getElem?_cons_succ] at e0 e1 e2 e3 e4 e5 e6 e7
    have hA2 := HA2.out
    have hU2 : ∀ k, bu = some k → k ≠ r2 := fun k e2 => by
      obtain ⟨Ar, cr, ar, buf, -, bs, be, -⟩ := HH.out.units
      rw [e2] at be
      cases Ar with
      | none => cases be
      | some ar' =>
        injection be with be
        have := bs.lt ar' rfl
        have := HR2.out
        omega
    exact bodyPost_ret (v := _) (by simp [results, Tryz.results18, go_sem, e0, e1, e2, e3, e4, e5, e6, e7]; rfl) rfl ⟨A3, c3, rfl, ndone HI4.out HTT.out HB5.out, HT4.out.trans HTT.out (fun k hk e => by have := HR2.out; omega), HA3.out⟩
  · rw [if_neg h1] at hG2
    subst hG2
    go_enter Tryz.func18, Tryz.ntmps18
    go_upto_region 1 with (fail)
    rw [← hw0, ← hr2]
    clear hw0 hr2
    go_upto_region 3 with (fail)
    obtain ⟨w1, hw1⟩ : ∃ w1, w1 = w0.alloc (.cells #[.int .i64 u.kind, .int .i64 u.sq, .int .u32 u.n, .int .u32 u.ps, .int .u32 u.mr, .slice u.lA u.ln u.lc, .bool u.self, .string u.data] 67) := ⟨_, rfl⟩
    obtain ⟨r4, hr4⟩ : ∃ r4, r4 = w0.heap.size := ⟨_, rfl⟩
    have HF1 : Hid (Fresh w w1) := by rw [hw1]; exact HF0.out.alloc _
    have HB4 : Hid (Blk w1 r4 67 [.int .i64 u.kind, .int .i64 u.sq, .int .u32 u.n, .int .u32 u.ps, .int .u32 u.mr, .slice u.lA u.ln u.lc, .bool u.self, .string u.data]) := by rw [hw1, hr4]; exact Blk.new w0 _ _
    have HB2' : Hid (Blk w1 r2 67 [.int .i64 0, .int .i64 0, .int .u32 0, .int .u32 0, .int .u32 0, .slice none 0 0, .bool false, .string { data := #[] }]) := by rw [hw1]; exact HB2.out.alloc _
    have e15 := HC15.out w1 HF1.out
    rw [HN.out] at e15
    have n3 : ¬ n = r4 := by have := HZ0.out; have := HR2.out; omega
    have n4 : ¬ r4 = n := by have := HZ0.out; have := HR2.out; omega
    have n5 : ¬ r2 = r4 := by have := HZ0.out; have := HR2.out; omega
    have n6 : ¬ r4 = r2 := by have := HZ0.out; have := HR2.out; omega
    rw [← hw1, ← hr4]
    clear hw1 hr4 HB2 d0 d1 d2 d3 d4 d5 d6 d7 d15
    go_wp2_with fail
    have HCL := clonePdu_any _ _ r w1 (HS1.out w1 HF1.out).rd (by rw [HN.out]; omega)
    rw [HN.out] at HCL
    refine HCL.mono ?_
    rintro e w3 ⟨A3, c3, rfl, s3, f3, b3⟩
    have HS3 := Lib.hid s3
    have HF3 : Hid (Fresh w w3) := HF1.out.trans f3 (fun _ _ e => e)
    have HB4' := Lib.hid (f3.blk HB4.out (fun e => e))
    have HB2'' := Lib.hid (f3.blk HB2'.out (fun e => e))
    have HA3 : Hid (∀ ad, A3 = some ad → w.heap.size ≤ ad.block) := fun ad e => Nat.le_trans HF1.out.size (b3 ad e)
    have HH3 := Lib.hid (HH.out.old HF3.out)
    have hA2 : ∀ ad, A3 = some ad → ad.block ≠ r2 := fun ad e => by have := b3 ad e; have := HB2'.out.lt; omega
    have HA2 := Lib.hid hA2
    clear hA2
    have l15 : w3.cell? ⟨n, 15, none⟩ = some (.slice (some ⟨g, o, none⟩) (N + 1) ca) := by
      have := HC15.out w3 HF3.out
      rw [HN.out] at this
      exact this
    have f15 := HH3.out.blk.frozen 15
    clear s3 f3 b3 HCL e15 HB4 HB2'
    simp only
    go_upto_region 4 with (fail)
    obtain ⟨w4, hw4⟩ : ∃ w4, w4 = w3.setCell ⟨n, 15, none⟩ (.slice A3 N c3) := ⟨_, rfl⟩
    have HI4 : Hid (NodeIn w4 n cn pc un bu A3 c3 B cl { st with ctl := r }) := by
      rw [hw4]
      refine HH3.out.st1 15 _ ?_ rfl rfl rfl rfl HS3.out HH3.out.left (fun ad k e1 e2 e3 => ?_)
      · show _ = Nd.S.cells { st with ctl := r } cn pc un A3 c3 B cl
        unfold Nd.S.cells
        simp only [HN.out]
        rfl
      · have h1 := HA3.out ad e1
        obtain ⟨Ar, cr, ar, buf, -, bs, be, -⟩ := HH.out.units
        rw [e2] at be
        cases Ar with
        | none => cases be
        | some ar' =>
          injection be with be
          have := bs.lt ar' rfl
          omega
    have HT4 : Hid (Touch (· = n) w w4) := by rw [hw4]; exact ((Touch.mono HF3.out (fun _ _ e => e.elim)).st rfl)
    have HB6 : Hid (Blk w4 r4 67 [.int .i64 u.kind, .int .i64 u.sq, .int .u32 u.n, .int .u32 u.ps, .int .u32 u.mr, .slice u.lA u.ln u.lc, .bool u.self, .string u.data]) := by rw [hw4]; exact HB4'.out.far n4 _
    have HB5 : Hid (Blk w4 r2 67 [.int .i64 0, .int .i64 0, .int .u32 0, .int .u32 0, .int .u32 0, .slice none 0 0, .bool false, .string { data := #[] }]) := by rw [hw4]; exact HB2''.out.far n2 _
    rw [← hw4]
    clear hw4 l15 f15
    have k0 : w4.cell? ⟨r4, 0, none⟩ = some (.int .i64 u.kind) := HB6.out.cell 0
    have k1 : w4.cell? ⟨r4, 1, none⟩ = some (.int .i64 u.sq) := HB6.out.cell 1
    have k2 : w4.cell? ⟨r4, 2, none⟩ = some (.int .u32 u.n) := HB6.out.cell 2
    have k3 : w4.cell? ⟨r4, 3, none⟩ = some (.int .u32 u.ps) := HB6.out.cell 3
    have k4 : w4.cell? ⟨r4, 4, none⟩ = some (.int .u32 u.mr) := HB6.out.cell 4
    have k5 : w4.cell? ⟨r4, 5, none⟩ = some (.slice u.lA u.ln u.lc) := HB6.out.cell 5
    have k6 : w4.cell? ⟨r4, 6, none⟩ = some (.bool u.self) := HB6.out.cell 6
    have k7 : w4.cell? ⟨r4, 7, none⟩ = some (.string u.data) := HB6.out.cell 7
    have j0 : w4.cell? ⟨r2, 0, none⟩ = some (.int .i64 0) := HB5.out.cell 0
    have j1 : w4.cell? ⟨r2, 1, none⟩ = some (.int .i64 0) := HB5.out.cell 1
    have j2 : w4.cell? ⟨r2, 2, none⟩ = some (.int .u32 0) := HB5.out.cell 2
    have j3 : w4.cell? ⟨r2, 3, none⟩ = some (.int .u32 0) := HB5.out.cell 3
    have j4 : w4.cell? ⟨r2, 4, none⟩ = some (.int .u32 0) := HB5.out.cell 4
    have j5 : w4.cell? ⟨r2, 5, none⟩ = some (.slice none 0 0) := HB5.out.cell 5
    have j6 : w4.cell? ⟨r2, 6, none⟩ = some (.bool false) := HB5.out.cell 6
    have j7 : w4.cell? ⟨r2, 7, none⟩ = some (.string { data := #[] }) := HB5.out.cell 7
    have q0 := HB5.out.frozen 0
    have q1 := HB5.out.frozen 1
    have q2 := HB5.out.frozen 2
    have q3 := HB5.out.frozen 3
    have q4 := HB5.out.frozen 4
    have q5 := HB5.out.frozen 5
    have q6 := HB5.out.frozen 6
    have q7 := HB5.out.frozen 7
    have HBF := Lib.hid (HB5.out.set8 (.int .i64 u.kind) (.int .i64 u.sq) (.int .u32 u.n) (.int .u32 u.ps) (.int .u32 u.mr) (.slice u.lA u.ln u.lc) (.bool u.self) (.string u.data))
    have HTN : Hid (∀ x0 x1 x2 x3 x4 x5 x6 x7, Touch (fun k => k = r2) w4 ((((((((w4.setCell ⟨r2, 0, none⟩ x0).setCell ⟨r2, 1, none⟩ x1).setCell ⟨r2, 2, none⟩ x2).setCell ⟨r2, 3, none⟩ x3).setCell ⟨r2, 4, none⟩ x4).setCell ⟨r2, 5, none⟩ x5).setCell ⟨r2, 6, none⟩ x6).setCell ⟨r2, 7, none⟩ x7)) := fun x0 x1 x2 x3 x4 x5 x6 x7 => ((((((((Touch.refl (fun k => k = r2) w4).st rfl).st rfl).st rfl).st rfl).st rfl).st rfl).st rfl).st rfl
    have HTT := Lib.hid (HTN.out (.int .i64 u.kind) (.int .i64 u.sq) (.int .u32 u.n) (.int .u32 u.ps) (.int .u32 u.mr) (.slice u.lA u.ln u.lc) (.bool u.self) (.string u.data))
    clear HTN
    go_wp2
    have e0 := HBF.out.cell 0
    have e1 := HBF.out.cell 1
    have e2 := HBF.out.cell 2
    have e3 := HBF.out.cell 3
    have e4 := HBF.out.cell 4
    have e5 := HBF.out.cell 5
    have e6 := HBF.out.cell 6
    have e7 := HBF.out.cell 7
    simp only [List.getElem?_cons_zero, List.getElem?_cons_succ] at e0 e1 e2 e3 e4 e5 e6 e7
    have hA2 := HA2.out
    have hU2 : ∀ k, bu = some k → k ≠ r2 := fun k e2 => by
      obtain ⟨Ar, cr, ar, buf, -, bs, be, -⟩ := HH.out.units
      rw [e2] at be
      cases Ar with
      | none => cases be
      | some ar' =>
        injection be with be
        have := bs.lt ar' rfl
        have := HR2.out
        omega
    exact bodyPost_ret (v := _) (by simp [results, Tryz.results18, go_sem, e0, e1, e2, e3, e4, e5, e6, e7]; rfl) rfl ⟨A3, c3, rfl, ndone HI4.out HTT.out HB5.out, HT4.out.trans HTT.out (fun k hk e => by have := HR2.out; omega), HA3.out⟩
end
end Go.Proofs.YtimhjdepngmejaaGreat

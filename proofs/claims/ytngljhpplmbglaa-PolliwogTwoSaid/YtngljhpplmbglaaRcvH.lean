/-
  recv.Recv: still.
-/
import Derived.Test.YtngljhpplmbglaaRcvG
namespace Go.Proofs.Ytngljhpplmbglaa
open Go.RowKit

/-- Of a gap what is missing still, counted from R on. -/
def Rv.StillIn (st : Rv.S) (g : Int × Int) (n : Int) : Prop :=
  (g.2 - st.r) % 16777216 ≤ (st.h - st.r) % 16777216 ∧ (0 ≤ n ∧ n < (st.h - st.r) % 16777216 ∧ ∀ q ∈ st.m, (q.1 - st.r) % 16777216 ≠ n) ∧ (g.2 - st.r) % 16777216 - (g.2 - g.1) % 16777216 ≤ n ∧ n < (g.2 - st.r) % 16777216

set_option maxHeartbeats 8000000 in
set_option maxRecDepth 4000 in
theorem rstill_any (p : Nat) (F : Nat → Prop) (st : Rv.S) (g : Int × Int) (w : World) (h : RecvAt w p F st) (hd : (st.h - st.r) % 16777216 ≤ 100000) :
    Calls Try.prog 31 #[.pointer (some ⟨p, 0, none⟩), .agg #[.int .u32 g.1, .int .u32 g.2]] w fun e w' => ∃ B d S, e = .returned (.slice B S.length d) ∧ Mine spanE w w' B d S ∧ Sp.Good S ∧ ∀ n, Sp.mem S n ↔ Rv.StillIn st g n := by
  obtain ⟨g1, g2⟩ := g
  have H0 := Lib.hid h
  obtain ⟨k, A, c, G, d, i1, hF, hL⟩ := h
  have I0 := Lib.hid i1
  clear i1 hF hL
  obtain ⟨t, ht⟩ : ∃ t, (g2 - st.r) % 16777216 = t := ⟨_, rfl⟩
  obtain ⟨s, hs⟩ : ∃ s, (g2 - g1) % 16777216 = s := ⟨_, rfl⟩
  obtain ⟨dd, hdd⟩ : ∃ dd, (st.h - st.r) % 16777216 = dd := ⟨_, rfl⟩
  have hb : 0 ≤ t ∧ t < 16777216 ∧ 0 ≤ s ∧ s < 16777216 ∧ 0 ≤ dd := by omega
  have HST : Hid (∀ n, Rv.StillIn st (g1, g2) n ↔ t ≤ dd ∧ (0 ≤ n ∧ n < dd ∧ ∀ q ∈ st.m, (q.1 - st.r) % 16777216 ≠ n) ∧ t - s ≤ n ∧ n < t) := fun n => by
    unfold Rv.StillIn
    rw [ht, hs, hdd]
  have HT1 := Lib.hid (to_any st.r g2)
  have HT2 := Lib.hid (to_any st.r st.h)
  have HT3 := Lib.hid (to_any g1 g2)
  rw [ht] at HT1
  rw [hdd] at HT2
  rw [hs] at HT3
  have HHD : Hid ((st.h - st.r) % 16777216 ≤ 100000) := hd
  have HDD := Lib.hid hdd
  rw [hdd] at hd
  clear ht hs hdd
  obtain ⟨hb1, hb2, hb3, hb4, hb5⟩ := hb
  simp only
  go_enter Try.func31, Try.ntmps31
  go_wp2_with fail
  have F1 : Hid (Fresh w (w.alloc (.cells #[.int .u32 g1, .int .u32 g2] 77))) := (Touch.refl _ _).alloc _
  have B1 : Hid (Blk (w.alloc (.cells #[.int .u32 g1, .int .u32 g2] 77)) w.heap.size 77 [.int .u32 g1, .int .u32 g2]) := Blk.new w _ _
  generalize w.alloc (.cells #[.int .u32 g1, .int .u32 g2] 77) = w1 at *
  obtain ⟨b, hbe⟩ : ∃ b, b = w.heap.size := ⟨_, rfl⟩
  rw [← hbe] at B1 ⊢
  clear hbe
  have KE : Hid (∀ W, Fresh w1 W → W.cell? ⟨p, 0, none⟩ = some (.int .u32 st.r) ∧ W.cell? ⟨p, 1, none⟩ = some (.int .u32 st.h) ∧ W.cell? ⟨b, 0, none⟩ = some (.int .u32 g1) ∧ W.cell? ⟨b, 1, none⟩ = some (.int .u32 g2)) := fun W hf =>
    ⟨(I0.out.old (F1.out.trans hf (fun _ _ h => h))).blk.cell 0, (I0.out.old (F1.out.trans hf (fun _ _ h => h))).blk.cell 1, (hf.blk B1.out (fun h => h)).cell 0, (hf.blk B1.out (fun h => h)).cell 1⟩
  obtain ⟨k0, k1, k2, k3⟩ := KE.out w1 (Touch.refl _ _)
  go_upto_region 1 with (fail)
  go_quiet ((go_at_call 20; with_reducible refine Calls.quiet_of_same (HT1.out _)))
  have f2 : Hid (Fresh w1 (w1.drewN nq)) := (Touch.refl _ _).drewN _
  clear k0 k1 k2 k3
  generalize w1.drewN nq = w2 at *
  obtain ⟨k0, k1, k2, k3⟩ := KE.out w2 f2.out
  go_upto_region 2 with (fail)
  go_quiet ((go_at_call 20; with_reducible refine Calls.quiet_of_same (HT2.out _)))
  have f3 : Hid (Fresh w1 (w2.drewN nq)) := f2.out.drewN _
  clear k0 k1 k2 k3 f2
  generalize w2.drewN nq = w3 at *
  by_cases htd : dd < t
  · have hdt : decide (dd < t) = true := decide_eq_true htd
    have HN : Hid (∀ n, Sp.mem ([] : List (Int × Int)) n ↔ Rv.StillIn st (g1, g2) n) := fun n => by
      rw [HST.out n]
      simp [Sp.mem]
      omega
    have FR : Hid (Fresh w w3) := F1.out.trans f3.out (fun _ _ h => h)
    go_wp2
    go_ret
    exact ⟨none, 0, [], rfl, ⟨Sl.nil _ _, FR.out, fun _ e => by cases e⟩, Sp.Good.nil, HN.out⟩
  · have hdt : decide (dd < t) = false := decide_eq_false htd
    have hts : IntKind.i64.wrap (t - s) = t - s := IntWalk.i64_in _ ⟨by omega, by omega⟩
    have HMI : Hid (∀ W, Fresh w1 W → Calls Try.prog 40 #[.pointer (some ⟨p, 0, none⟩)] W fun e w' => ∃ B d S, e = .returned (.slice B S.length d) ∧ Mine spanE W w' B d S ∧ Rv.Miss st S) := fun W hf => rmissing_any p F _ W (H0.out.old (F1.out.trans hf (fun _ _ h => h))) HHD.out
    have R1 : Hid (∀ W : World, Rd spanE (W.alloc (.cells #[.int .i64 (t - s), .int .i64 t] 97)) (some ⟨W.heap.size, 0, none⟩) 1 [(t - s, t)]) := fun W => Sl.rd (Sl.lit spanE W _ rfl #[.int .i64 (t - s), .int .i64 t] [(t - s, t)] rfl 1 rfl (by decide))
    have HOF : Hid (∀ W A c, Rd spanE W A c [(t - s, t)] → Calls Try.prog 51 #[.slice A 1 c] W fun e w' => ∃ B d S, e = .returned (.slice B S.length d) ∧ Mine spanE W w' B d S ∧ (Sp.Good S ∧ S.length ≤ 1 ∧ ∀ n, Sp.mem S n ↔ t - s ≤ n ∧ n < t)) := fun W A c hr => (of_any A c [(t - s, t)] W hr (by simp)).mono fun e w' ⟨B, d, S, e1, m, ho, hl⟩ => ⟨B, d, S, e1, m, ho.good, hl, fun n => by
      rw [ho.mem_small (fun x hx => by rw [List.mem_singleton.1 hx]; simp only; omega), mem_one]
      rfl⟩
    have HBO : Hid (∀ W B d S B' d' S', Rd spanE W B d S → Rd spanE W B' d' S' → Rv.Miss st S → (Sp.Good S' ∧ S'.length ≤ 1 ∧ ∀ n, Sp.mem S' n ↔ t - s ≤ n ∧ n < t) → Calls Try.prog 50 #[.slice B S.length d, .slice B' S'.length d'] W fun e w' => ∃ B d S, e = .returned (.slice B S.length d) ∧ Mine spanE W w' B d S ∧ Sp.Good S ∧ ∀ n, Sp.mem S n ↔ Rv.StillIn st (g1, g2) n) := fun W B d S B' d' S' hr hr' hm hs' => (both_any B d S B' d' S' W hr hr' hm.1 hs'.1 (by have := hm.len HHD.out; omega) (by omega)).mono fun e w' ⟨B2, d2, S2, e1, m, hg, hmm⟩ => ⟨B2, d2, S2, e1, m, hg, fun n => by
      rw [hmm, hm.2, hs'.2.2, HST.out, HDD.out]
      exact ⟨fun ⟨a, b⟩ => ⟨by omega, a, b⟩, fun ⟨_, a, b⟩ => ⟨a, b⟩⟩⟩
    have hf4 : Fresh w1 w3.drew := f3.out.drew
    clear HHD HDD HST HT1 HT2
    go_upto_region 4 with (fail)
    go_region_held3 (fun wx => wx.cell? ⟨p, 0, none⟩ = some (.int .u32 st.r) ∧ wx.cell? ⟨p, 1, none⟩ = some (.int .u32 st.h) ∧ wx.cell? ⟨b, 0, none⟩ = some (.int .u32 g1) ∧ wx.cell? ⟨b, 1, none⟩ = some (.int .u32 g2))
      (first
        | with_reducible exact KE.out _ (by with_reducible assumption)
        | exact KE.out _ (Touch.alloc (by with_reducible assumption) _)
        | with_reducible assumption)
      (first
        | (go_simp; go_at_call 20; with_reducible refine (HT3.out _).mono ?_; rintro e' w' ⟨rfl, rfl⟩)
        | (go_simp; go_at_call 40; with_reducible refine (HMI.out _ (by with_reducible assumption)).mono ?_; rintro e' w5 ⟨B5, d5, S5, rfl, hM5, hMs5⟩; have hf5 : Fresh w1 w5 := hf4.trans hM5.fresh (fun _ _ h => h); have hR5 := hM5.sl.rd; clear hM5)
        | (go_simp; go_at_call 51; refine (HOF.out _ _ _ (R1.out _)).mono ?_; rintro e' w6 ⟨B6, d6, S6, rfl, hM6, hs6⟩; have hf56 := Touch.trans ((Touch.refl (fun _ => False) _).alloc _) hM6.fresh (fun _ _ h => h); have hf6 : Fresh w1 w6 := hf5.trans hf56 (fun _ _ h => h); have hR6 := hM6.sl.rd; have hR56 := hR5.touch hf56 (fun _ _ _ h => h); clear hM6)
        | (go_simp; go_at_call 50; with_reducible refine (HBO.out _ _ _ _ _ _ _ (by with_reducible assumption) (by with_reducible assumption) (by with_reducible assumption) (by with_reducible assumption)).mono ?_; rintro e' w7 ⟨B7, d7, S7, rfl, hM7, hG7, hs7⟩; have hf7 : Fresh w1 w7 := hf6.trans hM7.fresh (fun _ _ h => h)))
    all_goals
      have M8 : Hid (Mine spanE w w7 B7 d7 S7) := hM7.back (F1.out.trans hf6 (fun _ _ h => h))
      have HG := Lib.hid (And.intro hG7 hs7)
      clear hM7 hG7 hs7 hf7 hR56 hR6 hf6 hf56 hs6 hR5 hf5 hMs5
      go_wp2
      go_ret
      exact ⟨B7, d7, S7, rfl, M8.out, HG.out.1, HG.out.2⟩
end Go.Proofs.Ytngljhpplmbglaa

/-
  recv.Recv: Stat, still.
-/
import Derived.Test.YtngljhpplmbglaaRcvM
import Derived.Test.YtngljhpplmbglaaGapL
namespace Go.Proofs.Ytngljhpplmbglaa
open Go.RowKit

theorem half_near {S T : List (Int × Int)} (h : Gp.Half S T) (hg : Sp.Good S) (hb : ∀ n, Sp.mem S n → 0 ≤ n ∧ n < 8388609) : T = S := Sp.Canon.uniq h.1.1 hg.1 fun n => by
  rw [h.2]
  exact ⟨fun h => h.1, fun h => ⟨h, hb n h⟩⟩

theorem Rv.renew_eq (st : Rv.S) : ∃ x, Rv.renew st = { st with mr := x } := ⟨_, rfl⟩

set_option maxHeartbeats 4000000 in
set_option maxRecDepth 4000 in
theorem rstat_any (p : Nat) (F : Nat → Prop) (st : Rv.S) (w : World) (h : RecvAt w p F st) (hd : (st.h - st.r) % 16777216 ≤ 100000) (hw : 0 ≤ st.window ∧ st.window ≤ 64) (hi : st.inbox.length ≤ 1000000) :
    Calls Try.prog 18 #[.pointer (some ⟨p, 0, none⟩)] w fun e w' => ∃ B d S, e = .returned (.tuple #[.slice B (Gp.gl st.r S).length d, .int .u32 st.r, .int .u32 (Rv.renew st).mr]) ∧ RecvAt w' p F (Rv.renew st) ∧ Touch F w w' ∧
      Sl numE w' B d (Gp.gl st.r S) ∧ (∀ ad, B = some ad → w.heap.size ≤ ad.block) ∧ Rv.Miss st S := by
  have HL := Lib.hid h.lim
  have HRN := Lib.hid (rrenew_any p F st w h hw hi)
  obtain ⟨x, hx⟩ := Rv.renew_eq st
  have HX := Lib.hid hx
  rw [hx] at HRN ⊢
  clear h hx
  go_enter Try.func18, Try.ntmps18
  go_wp2_with fail
  refine HRN.out.mono ?_
  rintro e w1 ⟨rfl, h1, t1⟩
  have H1 := Lib.hid h1
  have T1 := Lib.hid t1
  obtain ⟨k, A, c, G, d, i1, hF, hL⟩ := h1
  have I1 := Lib.hid i1
  have HMI : Hid (∀ W, Fresh w1 W → Calls Try.prog 40 #[.pointer (some ⟨p, 0, none⟩)] W fun e w' => ∃ B d S, e = .returned (.slice B S.length d) ∧ Mine spanE W w' B d S ∧ Rv.Miss { st with mr := x } S) := fun W hf => rmissing_any p F _ W (H1.out.old hf) hd
  have HLI : Hid (∀ W B d S, Rd spanE W B d S → Rv.Miss { st with mr := x } S → Calls Try.prog 33 #[.int .u32 st.r, .slice B S.length d] W fun e w' => ∃ B' d', e = .returned (.slice B' (Gp.gl st.r S).length d') ∧ Mine numE W w' B' d' (Gp.gl st.r S)) := fun W B d S hr hm => (listg_any st.r B d S W hr hm.1 (by have := hm.len hd; omega)).mono fun e w' ⟨B', d', T, e1, m1, hh⟩ => by
    obtain rfl : T = S := half_near hh hm.1 (fun n hn => by have := (hm.2 n).1 hn; have hd' : (st.h - st.r) % 16777216 ≤ 100000 := hd; simp only at this; omega)
    exact ⟨B', d', e1, m1⟩
  have KEEP : Hid (∀ W, Fresh w1 W → W.cell? ⟨p, 0, none⟩ = some (.int .u32 st.r) ∧ W.cell? ⟨p, 2, none⟩ = some (.int .u32 x)) := fun W hf => ⟨(I1.out.old hf).blk.cell 0, (I1.out.old hf).blk.cell 2⟩
  have hf1 : Fresh w1 w1.drew := (Touch.refl _ _).drew
  clear t1 i1 hF hL HRN
  simp only
  go_wp2_with fail
  go_region_held3 (fun wx => wx.cell? ⟨p, 0, none⟩ = some (.int .u32 st.r) ∧ wx.cell? ⟨p, 2, none⟩ = some (.int .u32 x))
    (first
      | with_reducible exact KEEP.out _ (by with_reducible assumption)
      | with_reducible assumption)
    (first
      | (go_simp; go_at_call 40; with_reducible refine (HMI.out _ (by with_reducible assumption)).mono ?_; rintro e' w' ⟨B2, d2, S2, rfl, hM2, hMs⟩; have hf2 : Fresh w1 w' := hf1.trans hM2.fresh (fun _ _ h => h); have hR2 := hM2.sl.rd; clear hM2)
      | (go_simp; go_at_call 33; with_reducible refine (HLI.out _ _ _ _ (by with_reducible assumption) (by with_reducible assumption)).mono ?_; rintro e' w' ⟨B3, d3, rfl, hM3⟩; have hf3 : Fresh w1 w' := hf2.trans hM3.fresh (fun _ _ h => h)))
  all_goals
    have HS3 : Hid (Sl numE w' B3 d3 (Gp.gl st.r S2)) := hM3.sl
    have HB3 : Hid (∀ ad, B3 = some ad → w.heap.size ≤ ad.block) := fun ad e => by
      have h1 := hM3.base ad e
      have h2 := T1.out.size
      have h3 := hf2.size
      omega
    have H3 := Lib.hid (H1.out.old hf3)
    have T3 : Hid (Touch F w w') := T1.out.trans hf3 (fun _ _ h => h.elim)
    have HM : Hid (Rv.Miss st S2) := hMs
    clear hM3 hR2 hMs hf1 hf2 hf3 KEEP HLI HMI I1 H1 T1
    go_wp2
    go_ret3
    exact ⟨B3, d3, S2, rfl, H3.out, T3.out, HS3.out, HB3.out, HM.out⟩
end Go.Proofs.Ytngljhpplmbglaa

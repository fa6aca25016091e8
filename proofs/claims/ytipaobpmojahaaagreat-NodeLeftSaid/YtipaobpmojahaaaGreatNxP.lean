/-
  send.Send: Next, by a function of the document's sender. No conditions.
-/
import Derived.Test.YtipaobpmojahaaaGreatSfH
set_option maxHeartbeats 1000000
namespace Go.Proofs.YtipaobpmojahaaaGreat
open Go.RowKit

theorem snext_void (p : Nat) (F : Nat -> Prop) (st : Sd.S) (w : World) (h : SendAt w p F st) (ha : st.again = []) (hs : st.s ≠ st.ms) (hq : st.q = []) :
  Calls Tryz.prog 43 #[.pointer (some ⟨p, 0, none⟩)] w fun e w' => e = .returned (.tuple #[.int .u32 0, .string ByteArray.empty, .bool false, .bool false]) ∧ SendAt w' p F st ∧ Touch F w w' := by
 obtain ⟨g, b, k, A, c, h1, hF⟩ := h.open_
 have c0 : w.cell? ⟨p, 0, none⟩ = some (.int .u32 st.s) := h1.blk.cell 0
 have c2 : w.cell? ⟨p, 2, none⟩ = some (.int .u32 st.ms) := h1.blk.cell 2
 have c7 : w.cell? ⟨p, 7, none⟩ = some (.pointer (some ⟨g, 0, none⟩)) := h1.blk.cell 7
 have c9 : w.cell? ⟨p, 9, none⟩ = some (.slice A st.again.length c) := h1.blk.cell 9
 rw [ha, List.length_nil] at c9
 have hb : (st.s == st.ms) = false := by simpa using hs
 have HR := lh (fun n => ringStr_take g b st.most st.q (w.drewN n) (h1.ring.same rfl))
 have HQ : Hid ({ st with q := [] } = st) := by unfold Hid; rw [<- hq]
 rw [hq] at HR
 have HI := lh h1
 have HF := lh hF
 clear h h1 hF ha hs hq
 obtain ⟨s, hse⟩ := xq st.s
 obtain ⟨ms, hme⟩ := xq st.ms
 rw [<- hse] at c0 hb
 rw [<- hme] at c2 hb
 clear hse hme
 go_enter Tryz.func43, Tryz.ntmps43
 go_wp2
 go_quiet (fail)
 go_wp2_with fail
 refine (HR.out _).mono ?_
 rintro e w1 ⟨rfl, hr, ht⟩
 have I1 : Hid (SendIn w1 p g b k A c { st with q := [] }) := (HI.out.drewN _).ringed hr ht
 have T1 : Hid (Touch F w w1) := ((Touch.refl _ _).drewN _).trans ht (fun x _ hx => HF.out.foot x hx)
 have HX : Hid (SendAt w1 p F st) := by
  have := SendAt.mk' I1.out HF.out
  rw [HQ.out] at this
  exact this
 clear hr ht HR HI c0 c2 c7 c9
 simp only [List.length_nil, if_true]
 go_wp2
 exact bodyPost_ret (results_tmp4 rfl _ _ _) rfl ⟨rfl, HX.out, T1.out⟩

theorem snextP_any (p : Nat) (F : Nat -> Prop) (x : Sf.S) (lo hi : Int) (hok : Sf.Ok x lo hi) (w : World) (h : SendAt w p F (Sf.prog x)) :
  Calls Tryz.prog 43 #[.pointer (some ⟨p, 0, none⟩)] w fun e w' => e = .returned (.tuple #[.int .u32 ((Sf.next x).2.1 % 16777216), .string (Sf.next x).2.2.1, .bool (Sf.next x).2.2.2.1, .bool (Sf.next x).2.2.2.2]) ∧ SendAt w' p (Grown F w) (Sf.prog (Sf.next x).1) ∧ Touch F w w' := by
 have hu : 0 <= (Sf.prog x).units ∧ (Sf.prog x).units < 4611686018427387904 := by
  show 0 <= x.units ∧ x.units < _
  have := hok.units
  have := hok.hl
  omega
 unfold Sf.next
 match ha : x.again with
 |n :: r =>
  have hb := hok.ags n (by rw [ha]; simp)
  have hpa : (Sf.prog x).again = n % 16777216 :: Sf.pa r := by show Sf.pa x.again = _; rw [ha]; rfl
  refine (snext_again p F (Sf.prog x) (n % 16777216) (Sf.pa r) _ _ w h hpa (hok.look hb.1 hb.2) hu).mono ?_
  rintro e w' ⟨rfl, h1, h2⟩
  rw [hok.prog_repeat1 ha] at h1
  exact ⟨rfl, h1.mono (fun _ h => .inl h), h2⟩
 |[] =>
  have hpa : (Sf.prog x).again = [] := by show Sf.pa x.again = _; rw [ha]; rfl
  have hsm := hok.sms
  have hma := hok.msa
  have hkl := hok.klen
  have hne : ¬ x.ms <= x.s -> (Sf.prog x).s ≠ (Sf.prog x).ms := fun hc => by
   show x.s % 16777216 ≠ x.ms % 16777216
   omega
  have stopped : ∀ r : Sf.S × Int × ByteArray × Bool × Bool, r = (x, 0, "".toUTF8, false, false) -> (x.ms <= x.s ∨ x.wait = []) -> Calls Tryz.prog 43 #[.pointer (some ⟨p, 0, none⟩)] w fun e w' => e = .returned (.tuple #[.int .u32 (r.2.1 % 16777216), .string r.2.2.1, .bool r.2.2.2.1, .bool r.2.2.2.2]) ∧ SendAt w' p (Grown F w) (Sf.prog r.1) ∧ Touch F w w' := fun r hr hc => by
   subst hr
   by_cases h1 : x.ms <= x.s
   ·have h2 : (Sf.prog x).s = (Sf.prog x).ms := by show x.s % 16777216 = x.ms % 16777216; rw [show x.s = x.ms by omega]
    refine (snext_stop p F (Sf.prog x) w h hpa h2).mono ?_
    rintro e w' ⟨rfl, h1, h2⟩
    exact ⟨rfl, h1.mono (fun _ h => .inl h), h2⟩
   ·have hq : (Sf.prog x).q = [] := hc.resolve_left h1
    refine (snext_void p F (Sf.prog x) w h hpa (hne h1) hq).mono ?_
    rintro e w' ⟨rfl, h1, h2⟩
    exact ⟨rfl, h1.mono (fun _ h => .inl h), h2⟩
  match hw : x.wait with
  |[] => exact stopped _ rfl (.inr hw)
  |v :: r =>
   by_cases hc : x.ms <= x.s
   ·simp only [if_pos hc]
    exact stopped _ rfl (.inl hc)
   ·simp only [if_neg hc]
    refine (snext_new p F (Sf.prog x) v r w h hpa (hne hc) hw hu).mono ?_
    rintro e w' ⟨rfl, h1, h2⟩
    rw [hok.prog_fresh1 v r] at h1
    exact ⟨rfl, h1.mono (fun _ h => .inl h), h2⟩

end Go.Proofs.YtipaobpmojahaaaGreat

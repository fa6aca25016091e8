/-
  recv.Recv: Take.
-/
import Derived.Test.YtngljhpplmbglaaRcvE
namespace Go.Proofs.Ytngljhpplmbglaa
open Go.RowKit

set_option maxHeartbeats 2000000 in
set_option maxRecDepth 4000 in
theorem rtake_any (p : Nat) (F : Nat → Prop) (st : Rv.S) (n : Int) (w : World) (h : RecvAt w p F st) (hi : st.inbox.length ≤ 100000) (j : Nat) (hj : max 0 (min n (st.inbox.length : Int)) = (j : Int)) :
    Calls Try.prog 17 #[.pointer (some ⟨p, 0, none⟩), .int .i64 n] w (RecvOut w p F { st with inbox := st.inbox.drop j } (st.inbox.take j)) := by
  obtain ⟨k, A, c, G, d, h1, hF, hL⟩ := h
  have c5 : w.cell? ⟨p, 5, none⟩ = some (.slice A st.inbox.length c) := h1.blk.cell 5
  have fz := h1.blk.frozen 5
  have hjl : j ≤ st.inbox.length := by omega
  have hlc := h1.inb.1
  have hcm := h1.inb.2.1
  unfold maxLen at hcm
  have HI := Lib.hid h1
  have HF := Lib.hid hF
  have HL := Lib.hid hL
  have HPW : Hid (p < w.heap.size) := hL _ hF.p
  obtain ⟨m1, hm1⟩ : ∃ m1 : Int, (if (st.inbox.length : Int) < n then (st.inbox.length : Int) else n) = m1 := ⟨_, rfl⟩
  have hm2 : (if 0 < m1 then m1 else 0) = (j : Int) := by rw [← hj, ← hm1]; split <;> (split <;> omega)
  clear hj
  -- what both clones give, whichever way the slice lies
  have HC1 : Hid (∀ A1 c1, Rd strE w A1 c1 (st.inbox.take j) → Calls Try.prog 39 #[.slice A1 j c1] w fun e w' => ∃ A' c', e = .returned (.slice A' j c') ∧ Sl strE w' A' c' (st.inbox.take j) ∧ Fresh w w' ∧ ∀ ad, A' = some ad → w.heap.size ≤ ad.block) := fun A1 c1 hr => by
    have := cloneStr_any A1 c1 (st.inbox.take j) w hr (by rw [List.length_take]; omega)
    rwa [List.length_take, Nat.min_eq_left hjl] at this
  have HC2 : Hid (∀ W A1 c1, Rd strE W A1 c1 (st.inbox.drop j) → Calls Try.prog 39 #[.slice A1 (st.inbox.length - j) c1] W fun e w' => ∃ A' c', e = .returned (.slice A' (st.inbox.length - j) c') ∧ Sl strE w' A' c' (st.inbox.drop j) ∧ Fresh W w' ∧ ∀ ad, A' = some ad → W.heap.size ≤ ad.block) := fun W A1 c1 hr => by
    have := cloneStr_any A1 c1 (st.inbox.drop j) W hr (by rw [List.length_drop]; omega)
    rwa [List.length_drop] at this
  have HU : Hid (Rd strE w A c (st.inbox.take j)) := h1.inb.rd.upto hjl
  have HD : Hid (∀ W, Fresh w W → Rd strE W (if c = j then A else A.map (·.add (j * strE.size))) (c - j) (st.inbox.drop j)) := fun W hf => ((h1.inb.touch hf (fun _ _ h => h)).from_ hjl).rd
  clear h1 hF hL
  have HTL : Hid ((st.inbox.take j).length = j) := by unfold Hid; rw [List.length_take]; omega
  have HDL : Hid ((st.inbox.drop j).length = st.inbox.length - j) := List.length_drop
  -- the end, whichever way
  have HEND : Hid (∀ (w2 w3 : World) A2 d2 A3 d3, Sl strE w2 A2 d2 (st.inbox.take j) → Fresh w w2 → (∀ ad, A2 = some ad → w.heap.size ≤ ad.block) → Sl strE w3 A3 d3 (st.inbox.drop j) → Fresh w2 w3 → (∀ ad, A3 = some ad → w2.heap.size ≤ ad.block) →
      (w3.cell? ⟨p, 5, none⟩ = some (.slice A st.inbox.length c) ∧ w3.frozen? ⟨p, 5, none⟩ = false) ∧ RecvOut w p F { st with inbox := st.inbox.drop j } (st.inbox.take j) (.returned (.slice A2 j d2)) (w3.setCell ⟨p, 5, none⟩ (.slice A3 (st.inbox.length - j) d3))) := by
    intro w2 w3 A2 d2 A3 d3 s2 f2 b2 s3 f3 b3
    have F3 : Fresh w w3 := f2.trans f3 (fun _ _ h => h)
    have I3 := HI.out.old F3
    refine ⟨⟨I3.blk.cell 5, I3.blk.frozen 5⟩, fun x => F x ∨ A3.map Addr.block = some x, A2, d2, by rw [HTL.out], ?_, ⟨k, A3, d3, G, d, ?_, ⟨.inl HF.out.p, .inl HF.out.k, fun ad e => .inr (by rw [e]; rfl), fun ad e => .inl (HF.out.G ad e)⟩, fun x hx => ?_⟩, ?_, fun x hx => ?_, fun ad e => ⟨b2 ad e, fun hx => ?_⟩⟩
    · exact (s2.touch f3 (fun _ _ h => h)).setCell (p := ⟨p, 5, none⟩) ((s2.touch f3 (fun _ _ h => h)).blk_ne I3.blk (by decide)) _
    · have := I3.inboxed s3
      rwa [HDL.out] at this
    · have h1 := F3.size
      rcases hx with hx | hx
      · have := HL.out x hx; simp; omega
      · cases A3 with
        | none => cases hx
        | some ad => have := s3.lt ad rfl; simp at hx ⊢; omega
    · exact ((F3.mono (fun _ _ h => h.elim) : Touch F w w3)).st HF.out.p
    · rcases hx with hx | hx
      · exact .inl hx
      · cases A3 with
        | none => cases hx
        | some ad => have h1 := b3 ad rfl; have h2 := f2.size; simp at hx; exact .inr (by omega)
    · rcases hx with hx | hx
      · have h1 := HL.out _ hx; have h2 := b2 ad e; omega
      · cases A3 with
        | none => cases hx
        | some ad' => have h1 := b3 ad' rfl; have h2 := s2.lt ad e; simp at hx; omega
  clear HF HL HTL HDL
  cases A with
  | none =>
    have hc0 := HI.out.inb.2.2.1 rfl
    have hl0 : st.inbox.length = 0 := by omega
    obtain rfl : j = 0 := by omega
    subst hc0
    have hnil : st.inbox = [] := List.eq_nil_of_length_eq_zero hl0
    rw [hl0] at c5 hm1 HEND
    have hz := fun w => Lib.run_eql_slice_nil (P := Try.prog) w 22 9 none 0 0 0 0 Try.underlying22
    obtain ⟨_, HO⟩ := HEND.out w w none 0 none 0 (by rw [hnil]; exact Sl.nil _ _) (Touch.refl _ _) (fun _ e => by cases e) (by rw [hnil]; exact Sl.nil _ _) (Touch.refl _ _) (fun _ e => by cases e)
    have HOO := Lib.hid HO
    clear hl0 hjl hlc hi hcm HO HEND HC1 HC2 HU HD HI hnil
    go_enter Try.func17, Try.ntmps17
    go_wp2
    all_goals
      go_ret
      exact HOO.out
  | some ad =>
    have hsp : ad.spot = none := by obtain ⟨hs, _⟩ := HI.out.inb.2.2.2 ad rfl; exact hs
    obtain ⟨g, o, sp⟩ := ad
    obtain rfl : sp = none := hsp
    have hj0 : (0 : Int) ≤ (j : Int) := by omega
    have hjc : (j : Int) ≤ (c : Int) := by omega
    have hjl2 : (j : Int) ≤ (st.inbox.length : Int) := by omega
    have hlc2 : (st.inbox.length : Int) ≤ (c : Int) := by omega
    generalize hil : st.inbox.length = il at *
    by_cases hcj : c = j
    · have HD2 : Hid (∀ W, Fresh w W → Rd strE W (some ⟨g, o, none⟩) (c - j) (st.inbox.drop j)) := fun W hf => by have := HD.out W hf; rwa [if_pos hcj] at this
      clear HD
      subst hcj
      have ez : il - c = 0 := by omega
      rw [ez] at HC2 HEND
      rw [Nat.sub_self] at HD2
      go_enter Try.func17, Try.ntmps17
      go_wp2_with fail
      refine (HC1.out _ _ HU.out).mono ?_
      rintro e w2 ⟨A2, d2, rfl, s2, f2, b2⟩
      have S2 := Lib.hid s2
      have F2 := Lib.hid f2
      have B2 := Lib.hid b2
      have c5' : w2.cell? ⟨p, 5, none⟩ = some (.slice (some ⟨g, o, none⟩) il c) := by
        have := (HI.out.old f2).blk.cell 5
        rw [this]
        exact ((HI.out.blk.cell 5).symm.trans c5)
      clear s2 f2 b2 HC1 HU c5 HI
      simp only
      go_wp2_with fail
      refine (HC2.out w2 _ _ (HD2.out w2 F2.out)).mono ?_
      rintro e w3 ⟨A3, d3, rfl, s3, f3, b3⟩
      obtain ⟨⟨c5'', fz'⟩, HO⟩ := HEND.out w2 w3 A2 d2 A3 d3 S2.out F2.out B2.out s3 f3 b3
      have HOO := Lib.hid HO
      clear s3 f3 b3 S2 F2 B2 HO HC2 HD2 HEND c5'
      simp only
      go_wp2
      go_ret
      exact HOO.out
    · have HD2 : Hid (∀ W, Fresh w W → Rd strE W (some ⟨g, o + j, none⟩) (c - j) (st.inbox.drop j)) := fun W hf => by
        have := HD.out W hf
        rw [if_neg hcj] at this
        simpa [Addr.add_lit, strE] using this
      clear HD
      go_enter Try.func17, Try.ntmps17
      go_wp2_with fail
      refine (HC1.out _ _ HU.out).mono ?_
      rintro e w2 ⟨A2, d2, rfl, s2, f2, b2⟩
      have S2 := Lib.hid s2
      have F2 := Lib.hid f2
      have B2 := Lib.hid b2
      have c5' : w2.cell? ⟨p, 5, none⟩ = some (.slice (some ⟨g, o, none⟩) il c) := by
        have := (HI.out.old f2).blk.cell 5
        rw [this]
        exact ((HI.out.blk.cell 5).symm.trans c5)
      clear s2 f2 b2 HC1 HU c5 HI
      simp only
      go_wp2_with fail
      refine (HC2.out w2 _ _ (HD2.out w2 F2.out)).mono ?_
      rintro e w3 ⟨A3, d3, rfl, s3, f3, b3⟩
      obtain ⟨⟨c5'', fz'⟩, HO⟩ := HEND.out w2 w3 A2 d2 A3 d3 S2.out F2.out B2.out s3 f3 b3
      have HOO := Lib.hid HO
      clear s3 f3 b3 S2 F2 B2 HO HC2 HD2 HEND c5'
      simp only
      go_wp2
      go_ret
      exact HOO.out
end Go.Proofs.Ytngljhpplmbglaa

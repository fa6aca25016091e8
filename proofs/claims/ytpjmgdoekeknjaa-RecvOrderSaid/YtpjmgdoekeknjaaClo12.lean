/-
  recv.Recv: Clone.
-/
import Derived.Test.YtpjmgdoekeknjaaRcvO
import Derived.Test.YtpjmgdoekeknjaaRcvE
import Derived.Test.YtpjmgdoekeknjaaCloS
import Derived.Shelf.SlMaps.Clone
import Derived.Deep.RegionHeld3
namespace Go.Proofs.Ytpjmgdoekeknjaa
open Go.RowKit

theorem app_gap {ops : Array Oper} {rest : List Oper} {o : Oper} {a : Act} {Q : Exit → Act → World → Prop} {w : World} (hgd : o.guard = none) {s x : Operand}
    (ho : o.op = .call { callee := .builtin .append, args := #[s, x], argTypes := #[71, 71] })
    {A A2 : Option Addr} {c c2 : Nat} {l l2 : List (Int × Int)} (es : a.eval s = .slice A l.length c) (ex : a.eval x = .slice A2 l2.length c2)
    (h : Sl gapE w A c l) (h2 : Rd gapE w A2 c2 l2) (hm : l.length + l2.length ≤ 1000000000000)
    (hK : ∀ A' c' L w', Hid (L = l ++ l2) → Sl gapE w' A' c' L → Touch (fun k => A.map Addr.block = some k) w w' → (A'.map Addr.block = A.map Addr.block ∨ A'.map Addr.block = some w.heap.size) →
      wpList Try.prog ops Q rest (a.put o.dst (.slice A' L.length c')) w') : wpList Try.prog ops Q (o :: rest) a w := by
  obtain ⟨i0, hi, hz0, hz1, hz2⟩ := info_parts Try.infoGap
  exact wpList_app gapE hgd ho i0 Try.underlying71 hi hz0 hz1 hz2 es ex h h2 (by simp only [maxLen]; omega) (by show _ * 8 ≤ _; omega) hK

set_option maxHeartbeats 1000000 in
theorem cloneGap_any (A : Option Addr) (c : Nat) (l : List (Int × Int)) (w : World) (h : Rd gapE w A c l) (hl : l.length ≤ 1000000) :
    Calls Try.prog 55 #[.slice A l.length c] w fun e w' => ∃ A' c', e = .returned (.slice A' l.length c') ∧ Sl gapE w' A' c' l ∧ Fresh w w' ∧ ∀ ad, A' = some ad → w.heap.size ≤ ad.block := by
  cases A with
  | none =>
    have h0 := h.2.2.1 rfl
    subst h0
    have : l = [] := List.eq_nil_of_length_eq_zero (by have := h.1; omega)
    subst this
    have hz := fun w => Lib.run_eql_slice_nil (P := Try.prog) w 71 76 none 0 0 0 0 Try.underlying71
    go_enter Try.func55, Try.ntmps55
    go_wp2
    go_ret
    exact ⟨none, 0, rfl, Sl.nil _ _, Touch.refl _ _, fun _ h => by cases h⟩
  | some ad =>
    have H := Lib.hid h
    clear h
    have hz := fun w => Lib.run_eql_slice_nil (P := Try.prog) w 71 76 (some ad) l.length c 0 0 Try.underlying71
    go_enter Try.func55, Try.ntmps55
    go_wp2_with (refine app_gap rfl rfl (l := []) (l2 := l) rfl rfl (Sl.lit gapE w _ rfl _ _ rfl _ rfl (by decide)) (H.out.alloc _) (by simp; omega) ?_; intro A2 c2 L2 w2 hL2 hs2 ht2 hA2)
    go_ret
    have e : L2 = l := hL2.out
    subst e
    refine ⟨A2, c2, rfl, hs2, (((Touch.refl _ w).alloc _).trans ht2 (fun k hk e => by simp at e; omega)), fun ad ha => ?_⟩
    subst ha
    rcases hA2 with e | e <;> (simp at e; omega)

theorem MapAt.copy {κ : Type} [DecidableEq κ] {P : Program} {K : KT P κ} {w : World} {b : Nat} {m : MList κ} (h : MapAt K w b m) : ∃ es clock, w.heap[b]? = some (.map es clock) ∧ MapAt K (w.alloc (.map es clock)) w.heap.size m := by
  obtain ⟨hn, es, cl, hb, hk, hv, hst⟩ := h
  exact ⟨es, cl, hb, hn, es, cl, heap_alloc_new w _, hk, hv, hst⟩

set_option maxHeartbeats 4000000 in
set_option maxRecDepth 8000 in
theorem cloneMap_any (b : Nat) (m : MList Int) (w : World) (h : MapAt numK w b m) :
    Calls Try.prog 54 #[.map (some b)] w fun e w' => ∃ k, e = .returned (.map (some k)) ∧ MapAt numK w' k m ∧ Fresh w w' ∧ w.heap.size ≤ k := by
  obtain ⟨es, cl, hb, h2⟩ := h.copy
  have hq := fun w => run_eql_map_nil_sl (P := Try.prog) w 70 _ _ (some b) Try.underlying70
  have H2 := Lib.hid h2
  clear h h2
  go_enter Try.func54, Try.ntmps54
  go_wp2
  rw [run_callFunc_extern Try.func61 (by kernel_rfl) (by kernel_rfl) (by kernel_rfl) (e := Extern.MapsClone.clone) (by kernel_rfl), run_maps_clone_sl w 70 hb]
  simp only [Result.andThen]
  rw [Oper.upon_value]
  go_wp2
  rw [run_typeAssert_map_sl _ 70 20 _ _ _ Try.underlying70]
  simp only [Result.andThen]
  rw [Oper.upon_value]
  go_wp2
  go_ret
  exact ⟨_, rfl, H2.out, (Touch.refl _ _).alloc _, Nat.le_refl _⟩

set_option maxHeartbeats 8000000 in
set_option maxRecDepth 4000 in
theorem rclone_any (p : Nat) (F : Nat → Prop) (st : Rv.S) (w : World) (h : RecvAt w p F st) (hi : st.inbox.length ≤ 1000000) (hg : st.gaps.length ≤ 1000000) :
    Calls Try.prog 45 #[.pointer (some ⟨p, 0, none⟩)] w fun e w' => ∃ p' F', e = .returned (.pointer (some ⟨p', 0, none⟩)) ∧ RecvAt w' p' F' st ∧ Fresh w w' ∧ ∀ x, F' x → w.heap.size ≤ x := by
  obtain ⟨k, A, c, G, d, h1, hF, hL⟩ := h
  have c0 : w.cell? ⟨p, 0, none⟩ = some (.int .u32 st.r) := h1.blk.cell 0
  have c1 : w.cell? ⟨p, 1, none⟩ = some (.int .u32 st.h) := h1.blk.cell 1
  have c2 : w.cell? ⟨p, 2, none⟩ = some (.int .u32 st.mr) := h1.blk.cell 2
  have c3 : w.cell? ⟨p, 3, none⟩ = some (.int .i64 st.window) := h1.blk.cell 3
  have c4 : w.cell? ⟨p, 4, none⟩ = some (.map (some k)) := h1.blk.cell 4
  have c5 : w.cell? ⟨p, 5, none⟩ = some (.slice A st.inbox.length c) := h1.blk.cell 5
  have c6 : w.cell? ⟨p, 6, none⟩ = some (.slice G st.gaps.length d) := h1.blk.cell 6
  have HI := Lib.hid h1
  clear h1 hF hL
  go_enter Try.func45, Try.ntmps45
  go_upto_region 2 with (fail)
  have B1 := Lib.hid (Blk.new w 73 [.int .u32 st.r, .int .u32 st.h, .int .u32 st.mr, .int .i64 st.window, .map (some k), .slice A st.inbox.length c, .slice G st.gaps.length d])
  have I1 := Lib.hid (HI.out.old ((Touch.refl (fun _ => False) w).alloc (.cells #[.int .u32 st.r, .int .u32 st.h, .int .u32 st.mr, .int .i64 st.window, .map (some k), .slice A st.inbox.length c, .slice G st.gaps.length d] 73)))
  have F1 : Hid (Fresh w (w.alloc (.cells #[.int .u32 st.r, .int .u32 st.h, .int .u32 st.mr, .int .i64 st.window, .map (some k), .slice A st.inbox.length c, .slice G st.gaps.length d] 73))) := (Touch.refl _ _).alloc _
  have hp2 : Hid (p < w.heap.size ∧ k < w.heap.size ∧ (∀ ad, A = some ad → ad.block < w.heap.size) ∧ (∀ ad, G = some ad → ad.block < w.heap.size)) := ⟨HI.out.blk.lt, HI.out.map.lt, HI.out.inb.lt, HI.out.gap.lt⟩
  clear c0 c1 c2 c3 c4 c5 c6 HI
  generalize hw1 : World.alloc w _ = w1
  have B1' : Hid (Blk w1 w.heap.size 73 [.int .u32 st.r, .int .u32 st.h, .int .u32 st.mr, .int .i64 st.window, .map (some k), .slice A st.inbox.length c, .slice G st.gaps.length d]) := hw1 ▸ B1.out
  rw [hw1] at I1 F1
  clear B1 hw1
  obtain ⟨p2, hp⟩ : ∃ p2, p2 = w.heap.size := ⟨_, rfl⟩
  rw [← hp] at B1' hp2 ⊢
  have HP := Lib.hid hp
  clear hp
  have KE : Hid (∀ W, Touch (· = p2) w1 W → W.cell? ⟨p, 4, none⟩ = some (.map (some k)) ∧ W.cell? ⟨p, 5, none⟩ = some (.slice A st.inbox.length c) ∧ W.cell? ⟨p, 6, none⟩ = some (.slice G st.gaps.length d)) := fun W ht => by
    have hb := ht.blk I1.out.blk (fun e => by have := hp2.out.1; omega)
    exact ⟨hb.cell 4, hb.cell 5, hb.cell 6⟩
  have HCM : Hid (∀ W, Touch (· = p2) w1 W → Calls Try.prog 54 #[.map (some k)] W fun e w' => ∃ k, e = .returned (.map (some k)) ∧ MapAt numK w' k (Rv.bufV st.m) ∧ Fresh W w' ∧ W.heap.size ≤ k) := fun W ht =>
    cloneMap_any k _ W (I1.out.map.touch ht (fun e => by have := hp2.out.2.1; omega))
  have HCS : Hid (∀ W, Touch (· = p2) w1 W → Calls Try.prog 35 #[.slice A st.inbox.length c] W fun e w' => ∃ A' c', e = .returned (.slice A' st.inbox.length c') ∧ Sl strE w' A' c' st.inbox ∧ Fresh W w' ∧ ∀ ad, A' = some ad → W.heap.size ≤ ad.block) := fun W ht =>
    cloneStr_any A c _ W (I1.out.inb.touch ht (fun ad e e2 => by have := hp2.out.2.2.1 ad e; omega)).rd hi
  have HCG : Hid (∀ W, Touch (· = p2) w1 W → Calls Try.prog 55 #[.slice G st.gaps.length d] W fun e w' => ∃ A' c', e = .returned (.slice A' st.gaps.length c') ∧ Sl gapE w' A' c' st.gaps ∧ Fresh W w' ∧ ∀ ad, A' = some ad → W.heap.size ≤ ad.block) := fun W ht =>
    cloneGap_any G d _ W (I1.out.gap.touch ht (fun ad e e2 => by have := hp2.out.2.2.2 ad e; omega)).rd hg
  have T1 : Touch (· = p2) w1 w1.drew := (Touch.refl _ _).drew
  clear I1
  have fzz : ∀ W, Fresh w1 W → ∀ i, W.frozen? ⟨p2, i, none⟩ = false := fun W hf i => (hf.blk B1'.out (fun h => h)).frozen i
  have FZ := Lib.hid fzz
  clear fzz
  have FY : Hid (∀ W, Fresh w1 W → W.cell? ⟨p2, 4, none⟩ = some (.map (some k)) ∧ W.cell? ⟨p2, 5, none⟩ = some (.slice A st.inbox.length c) ∧ W.cell? ⟨p2, 6, none⟩ = some (.slice G st.gaps.length d)) := fun W hf =>
    ⟨(hf.blk B1'.out (fun h => h)).cell 4, (hf.blk B1'.out (fun h => h)).cell 5, (hf.blk B1'.out (fun h => h)).cell 6⟩
  have f1 : Fresh w1 w1.drew := (Touch.refl _ _).drew
  go_region_held3 (fun wx => wx.cell? ⟨p, 4, none⟩ = some (.map (some k)) ∧ wx.cell? ⟨p, 5, none⟩ = some (.slice A st.inbox.length c) ∧ wx.cell? ⟨p, 6, none⟩ = some (.slice G st.gaps.length d))
    (first
      | with_reducible exact KE.out _ (by with_reducible assumption)
      | exact KE.out _ (Touch.st T4 rfl)
      | exact KE.out _ (Touch.st (Touch.st T4 rfl) rfl)
      | exact KE.out _ (Touch.st (Touch.st (Touch.st T4 rfl) rfl) rfl)
      | with_reducible assumption)
    (first
      | (go_simp; go_at_call 54; with_reducible refine (HCM.out _ (by with_reducible assumption)).mono ?_; rintro e' w2 ⟨k2, rfl, m2, f2, b2⟩; have T2 : Touch (· = p2) w1 w2 := T1.trans f2 (fun _ _ h => h.elim); have g2 : Fresh w1 w2 := f1.trans f2 (fun _ _ h => h))
      | (go_simp; go_at_call 35; with_reducible refine (HCS.out _ (by with_reducible assumption)).mono ?_; rintro e' w3 ⟨A3, c3, rfl, s3, f3, b3⟩; have T3 : Touch (· = p2) w1 w3 := T2.trans f3 (fun _ _ h => h.elim); have g3 : Fresh w1 w3 := g2.trans f3 (fun _ _ h => h))
      | (go_simp; go_at_call 55; with_reducible refine (HCG.out _ (by with_reducible assumption)).mono ?_; rintro e' w4 ⟨G4, d4, rfl, s4, f4, b4⟩; have T4 : Touch (· = p2) w1 w4 := T3.trans f4 (fun _ _ h => h.elim); have g4 : Fresh w1 w4 := g3.trans f4 (fun _ _ h => h); obtain ⟨y4, y5, y6⟩ := FY.out w4 g4; have z4 := FZ.out w4 g4 4; have z5 := FZ.out w4 g4 5; have z6 := FZ.out w4 g4 6))
  all_goals
    have bw := (g4.blk B1'.out (fun h => h))
    have hlt1 : p2 < w1.heap.size := B1'.out.lt
    have e2 : w1.heap.size ≤ k2 := b2
    have e3 : ∀ ad, A3 = some ad → w1.heap.size ≤ ad.block := fun ad e => by have := b3 ad e; have := g2.size; omega
    have e4 : ∀ ad, G4 = some ad → w1.heap.size ≤ ad.block := fun ad e => by have := b4 ad e; have := g3.size; omega
    have m4 : MapAt numK w4 k2 (Rv.bufV st.m) := (m2.touch f3 (fun h => h)).touch f4 (fun h => h)
    have s4' : Sl strE w4 A3 c3 st.inbox := s3.touch f4 (fun _ _ h => h)
    have hIN : RecvIn (((w4.setCell ⟨p2, 4, none⟩ (.map (some k2))).setCell ⟨p2, 5, none⟩ (.slice A3 st.inbox.length c3)).setCell ⟨p2, 6, none⟩ (.slice G4 st.gaps.length d4)) p2 k2 A3 c3 G4 d4 st := by
      refine ⟨((bw.set 4 _).set 5 _).set 6 _, ((m4.setCell ?_ _).setCell ?_ _).setCell ?_ _, ((s4'.setCell ?_ _).setCell ?_ _).setCell ?_ _, ((s4.setCell ?_ _).setCell ?_ _).setCell ?_ _⟩
      · show k2 ≠ p2; omega
      · show k2 ≠ p2; omega
      · show k2 ≠ p2; omega
      · intro ad e; have := e3 ad e; show ad.block ≠ p2; omega
      · intro ad e; have := e3 ad e; show ad.block ≠ p2; omega
      · intro ad e; have := e3 ad e; show ad.block ≠ p2; omega
      · intro ad e; have := e4 ad e; show ad.block ≠ p2; omega
      · intro ad e; have := e4 ad e; show ad.block ≠ p2; omega
      · intro ad e; have := e4 ad e; show ad.block ≠ p2; omega
    have hT : Touch (· = p2) w1 (((w4.setCell ⟨p2, 4, none⟩ (.map (some k2))).setCell ⟨p2, 5, none⟩ (.slice A3 st.inbox.length c3)).setCell ⟨p2, 6, none⟩ (.slice G4 st.gaps.length d4)) := Touch.st (Touch.st (Touch.st T4 rfl) rfl) rfl
    have HX : Hid (∃ p' F', Ending.returned (.pointer (some ⟨p2, 0, none⟩)) = .returned (.pointer (some ⟨p', 0, none⟩)) ∧ RecvAt (((w4.setCell ⟨p2, 4, none⟩ (.map (some k2))).setCell ⟨p2, 5, none⟩ (.slice A3 st.inbox.length c3)).setCell ⟨p2, 6, none⟩ (.slice G4 st.gaps.length d4)) p' F' st ∧
        Fresh w (((w4.setCell ⟨p2, 4, none⟩ (.map (some k2))).setCell ⟨p2, 5, none⟩ (.slice A3 st.inbox.length c3)).setCell ⟨p2, 6, none⟩ (.slice G4 st.gaps.length d4)) ∧ ∀ x, F' x → w.heap.size ≤ x) := by
      have hp0 : p2 = w.heap.size := HP.out
      refine ⟨p2, fun x => x = p2 ∨ x = k2 ∨ A3.map Addr.block = some x ∨ G4.map Addr.block = some x, rfl, ⟨k2, A3, c3, G4, d4, hIN, ⟨.inl rfl, .inr (.inl rfl), fun ad e => .inr (.inr (.inl (by rw [e]; rfl))), fun ad e => .inr (.inr (.inr (by rw [e]; rfl)))⟩, ?_⟩, F1.out.trans hT (fun k hk e => by omega), ?_⟩
      · rintro x (rfl | rfl | e | e)
        · exact hIN.blk.lt
        · exact hIN.map.lt
        · obtain ⟨ad, hA, rfl⟩ := Option.map_eq_some_iff.1 e
          exact hIN.inb.lt ad hA
        · obtain ⟨ad, hA, rfl⟩ := Option.map_eq_some_iff.1 e
          exact hIN.gap.lt ad hA
      · have h1 := F1.out.size
        rintro x (rfl | rfl | e | e)
        · omega
        · omega
        · obtain ⟨ad, hA, rfl⟩ := Option.map_eq_some_iff.1 e
          have := e3 ad hA
          omega
        · obtain ⟨ad, hA, rfl⟩ := Option.map_eq_some_iff.1 e
          have := e4 ad hA
          omega
    clear bw hlt1 e2 e3 e4 m4 s4' hIN hT m2 s3 s4 f2 f3 f4 b2 b3 b4 T1 T2 T3 T4 f1 g2 g3 g4 y4 y5 y6 z4 z5 z6 KE HCM HCS HCG FZ FY B1' hp2 F1 HP
    go_wp2
    go_ret
    exact HX.out
end Go.Proofs.Ytpjmgdoekeknjaa

/-
  send.Send: Clone.
-/
import Derived.Test.YtajdnllkkekmnaaGreatSfH
import Derived.Test.YtajdnllkkekmnaaGreatRingKStr
import Derived.Shelf.SlMaps.Clone
import Derived.Deep.RegionHeld3
namespace Go.Proofs.YtajdnllkkekmnaaGreat
open Go.RowKit

theorem MapAt.copy {κ : Type} [DecidableEq κ] {P : Program} {K : KT P κ} {w : World} {b : Nat} {m : MList κ} (h : MapAt K w b m) : ∃ es clock, w.heap[b]? = some (.map es clock) ∧ MapAt K (w.alloc (.map es clock)) w.heap.size m := by
  obtain ⟨hn, es, cl, hb, hk, hv, hst⟩ := h
  exact ⟨es, cl, hb, hn, es, cl, heap_alloc_new w _, hk, hv, hst⟩

set_option maxHeartbeats 4000000 in
set_option maxRecDepth 8000 in
theorem cloneMap_any (b : Nat) (m : MList Int) (w : World) (h : MapAt numK w b m) :
    Calls Tryz.prog 55 #[.map (some b)] w fun e w' => ∃ k, e = .returned (.map (some k)) ∧ MapAt numK w' k m ∧ Fresh w w' ∧ w.heap.size ≤ k := by
  obtain ⟨es, cl, hb, h2⟩ := h.copy
  have hq := fun w => run_eql_map_nil_sl (P := Tryz.prog) w 69 _ _ (some b) Tryz.underlying69
  have H2 := Lib.hid h2
  clear h h2
  go_enter Tryz.func55, Tryz.ntmps55
  go_wp2
  rw [run_callFunc_extern Tryz.func70 (by kernel_rfl) (by kernel_rfl) (by kernel_rfl) (e := Extern.MapsClone.clone) (by kernel_rfl), run_maps_clone_sl w 69 hb]
  simp only [Result.andThen]
  rw [Oper.upon_value]
  go_wp2
  rw [run_typeAssert_map_sl _ 69 20 _ _ _ Tryz.underlying69]
  simp only [Result.andThen]
  rw [Oper.upon_value]
  go_wp2
  go_ret
  exact ⟨_, rfl, H2.out, (Touch.refl _ _).alloc _, Nat.le_refl _⟩

set_option maxHeartbeats 8000000 in
set_option maxRecDepth 4000 in
theorem sclone_any (p : Nat) (F : Nat → Prop) (st : Sd.S) (w : World) (h : SendAt w p F st) (hag : st.again.length ≤ 16777216) :
    Calls Tryz.prog 22 #[.pointer (some ⟨p, 0, none⟩)] w fun e w' => ∃ p' F', e = .returned (.pointer (some ⟨p', 0, none⟩)) ∧ SendAt w' p' F' st ∧ Fresh w w' ∧ ∀ x, F' x → w.heap.size ≤ x := by
  obtain ⟨g, b, k, A, c, h1, hF⟩ := h.open_
  have c0 : w.cell? ⟨p, 0, none⟩ = some (.int .u32 st.s) := h1.blk.cell 0
  have c1 : w.cell? ⟨p, 1, none⟩ = some (.int .u32 st.a) := h1.blk.cell 1
  have c2 : w.cell? ⟨p, 2, none⟩ = some (.int .u32 st.ms) := h1.blk.cell 2
  have c3 : w.cell? ⟨p, 3, none⟩ = some (.int .u32 st.ps) := h1.blk.cell 3
  have c4 : w.cell? ⟨p, 4, none⟩ = some (.int .u32 st.pa) := h1.blk.cell 4
  have c5 : w.cell? ⟨p, 5, none⟩ = some (.int .i64 st.units) := h1.blk.cell 5
  have c6 : w.cell? ⟨p, 6, none⟩ = some (.int .i64 st.polls) := h1.blk.cell 6
  have c7 : w.cell? ⟨p, 7, none⟩ = some (.pointer (some ⟨g, 0, none⟩)) := h1.blk.cell 7
  have c8 : w.cell? ⟨p, 8, none⟩ = some (.map (some k)) := h1.blk.cell 8
  have c9 : w.cell? ⟨p, 9, none⟩ = some (.slice A st.again.length c) := h1.blk.cell 9
  have HI := Lib.hid h1
  clear h h1 hF
  go_enter Tryz.func22, Tryz.ntmps22
  go_upto_region 2 with (fail)
  have B1 : Hid (Blk (w.alloc (.cells #[.int .u32 st.s, .int .u32 st.a, .int .u32 st.ms, .int .u32 st.ps, .int .u32 st.pa, .int .i64 st.units, .int .i64 st.polls, .pointer (some ⟨g, 0, none⟩), .map (some k), .slice A st.again.length c] 71)) w.heap.size 71 (sendCells g k A c st)) := Blk.new w _ (sendCells g k A c st)
  have I1 := Lib.hid (HI.out.old ((Touch.refl (fun _ => False) w).alloc (.cells #[.int .u32 st.s, .int .u32 st.a, .int .u32 st.ms, .int .u32 st.ps, .int .u32 st.pa, .int .i64 st.units, .int .i64 st.polls, .pointer (some ⟨g, 0, none⟩), .map (some k), .slice A st.again.length c] 71)))
  have F1 : Hid (Fresh w (w.alloc (.cells #[.int .u32 st.s, .int .u32 st.a, .int .u32 st.ms, .int .u32 st.ps, .int .u32 st.pa, .int .i64 st.units, .int .i64 st.polls, .pointer (some ⟨g, 0, none⟩), .map (some k), .slice A st.again.length c] 71))) := (Touch.refl _ _).alloc _
  have hp2 : Hid (p < w.heap.size ∧ k < w.heap.size ∧ (∀ ad, A = some ad → ad.block < w.heap.size) ∧ g < w.heap.size ∧ ∀ x, b = some x → x < w.heap.size) := ⟨HI.out.blk.lt, HI.out.map.lt, HI.out.ag.lt, HI.out.ring.lt, HI.out.ring.ltb⟩
  clear c0 c1 c2 c3 c4 c5 c6 c7 c8 c9 HI
  generalize hw1 : World.alloc w _ = w1
  have B1' : Hid (Blk w1 w.heap.size 71 (sendCells g k A c st)) := hw1 ▸ B1.out
  rw [hw1] at I1 F1
  clear B1 hw1
  obtain ⟨p2, hp⟩ : ∃ p2, p2 = w.heap.size := ⟨_, rfl⟩
  rw [← hp] at B1' hp2 ⊢
  have HP := Lib.hid hp
  clear hp
  have KE : Hid (∀ W, Touch (· = p2) w1 W → W.cell? ⟨p, 7, none⟩ = some (.pointer (some ⟨g, 0, none⟩)) ∧ W.cell? ⟨p, 8, none⟩ = some (.map (some k)) ∧ W.cell? ⟨p, 9, none⟩ = some (.slice A st.again.length c)) := fun W ht => by
    have hb := ht.blk I1.out.blk (fun e => by have := hp2.out.1; omega)
    exact ⟨hb.cell 7, hb.cell 8, hb.cell 9⟩
  have HCR : Hid (∀ W, Touch (· = p2) w1 W → Calls Tryz.prog 54 #[.pointer (some ⟨g, 0, none⟩)] W fun e w' => ∃ g' b', e = .returned (.pointer (some ⟨g', 0, none⟩)) ∧ RingStr w' g' b' st.most st.q ∧ Fresh W w' ∧ W.heap.size ≤ g' ∧ ∀ k, b' = some k → W.heap.size ≤ k) := fun W ht =>
    ringStr_clone g b st.most st.q W (I1.out.ring.touch ht (fun e => by have := hp2.out.2.2.2.1; omega) (fun x e e2 => by have := hp2.out.2.2.2.2 x e; omega))
  have HCM : Hid (∀ W, Touch (· = p2) w1 W → Calls Tryz.prog 55 #[.map (some k)] W fun e w' => ∃ k, e = .returned (.map (some k)) ∧ MapAt numK w' k (Sd.mapV st.m) ∧ Fresh W w' ∧ W.heap.size ≤ k) := fun W ht =>
    cloneMap_any k _ W (I1.out.map.touch ht (fun e => by have := hp2.out.2.1; omega))
  have HCS : Hid (∀ W, Touch (· = p2) w1 W → Calls Tryz.prog 41 #[.slice A st.again.length c] W fun e w' => ∃ A' c', e = .returned (.slice A' st.again.length c') ∧ Mine numE W w' A' c' st.again) := fun W ht =>
    cloneNum_any A c _ W (I1.out.ag.touch ht (fun ad e e2 => by have := hp2.out.2.2.1 ad e; omega)).rd hag
  have T1 : Touch (· = p2) w1 w1.drew := (Touch.refl _ _).drew
  clear I1
  have fzz : ∀ W, Fresh w1 W → ∀ i, W.frozen? ⟨p2, i, none⟩ = false := fun W hf i => (hf.blk B1'.out (fun h => h)).frozen i
  have FZ := Lib.hid fzz
  clear fzz
  have FY : Hid (∀ W, Fresh w1 W → W.cell? ⟨p2, 7, none⟩ = some (.pointer (some ⟨g, 0, none⟩)) ∧ W.cell? ⟨p2, 8, none⟩ = some (.map (some k)) ∧ W.cell? ⟨p2, 9, none⟩ = some (.slice A st.again.length c)) := fun W hf =>
    ⟨(hf.blk B1'.out (fun h => h)).cell 7, (hf.blk B1'.out (fun h => h)).cell 8, (hf.blk B1'.out (fun h => h)).cell 9⟩
  have f1 : Fresh w1 w1.drew := (Touch.refl _ _).drew
  go_region_held3 (fun wx => wx.cell? ⟨p, 7, none⟩ = some (.pointer (some ⟨g, 0, none⟩)) ∧ wx.cell? ⟨p, 8, none⟩ = some (.map (some k)) ∧ wx.cell? ⟨p, 9, none⟩ = some (.slice A st.again.length c))
    (first
      | with_reducible exact KE.out _ (by with_reducible assumption)
      | exact KE.out _ (Touch.st T4 rfl)
      | exact KE.out _ (Touch.st (Touch.st T4 rfl) rfl)
      | exact KE.out _ (Touch.st (Touch.st (Touch.st T4 rfl) rfl) rfl)
      | with_reducible assumption)
    (first
      | (go_simp; go_at_call 54; with_reducible refine (HCR.out _ (by with_reducible assumption)).mono ?_; rintro e' w2 ⟨g2, b2, rfl, r2, f2, hg2, hb2⟩; have T2 : Touch (· = p2) w1 w2 := T1.trans f2 (fun _ _ h => h.elim); have g2' : Fresh w1 w2 := f1.trans f2 (fun _ _ h => h))
      | (go_simp; go_at_call 55; with_reducible refine (HCM.out _ (by with_reducible assumption)).mono ?_; rintro e' w3 ⟨k3, rfl, m3, f3, hk3⟩; have T3 : Touch (· = p2) w1 w3 := T2.trans f3 (fun _ _ h => h.elim); have g3' : Fresh w1 w3 := g2'.trans f3 (fun _ _ h => h))
      | (go_simp; go_at_call 41; with_reducible refine (HCS.out _ (by with_reducible assumption)).mono ?_; rintro e' w4 ⟨A4, c4, rfl, m4⟩; have T4 : Touch (· = p2) w1 w4 := T3.trans m4.fresh (fun _ _ h => h.elim); have g4' : Fresh w1 w4 := g3'.trans m4.fresh (fun _ _ h => h); obtain ⟨y4, y5, y6⟩ := FY.out w4 g4'; have z4 := FZ.out w4 g4' 7; have z5 := FZ.out w4 g4' 8; have z6 := FZ.out w4 g4' 9))
  all_goals
    have bw := (g4'.blk B1'.out (fun h => h))
    have hlt1 : p2 < w1.heap.size := B1'.out.lt
    have s2 := g2'.size
    have s3 := g3'.size
    have e2 : w1.heap.size ≤ g2 := hg2
    have e2b : ∀ x, b2 = some x → w1.heap.size ≤ x := hb2
    have e3 : w1.heap.size ≤ k3 := Nat.le_trans s2 hk3
    have e4 : ∀ ad, A4 = some ad → w1.heap.size ≤ ad.block := fun ad e => Nat.le_trans s3 (m4.base ad e)
    have r4 : RingStr w4 g2 b2 st.most st.q := (r2.touch f3 (fun h => h) (fun _ _ h => h)).touch m4.fresh (fun h => h) (fun _ _ h => h)
    have mp4 : MapAt numK w4 k3 (Sd.mapV st.m) := m3.touch m4.fresh (fun h => h)
    have hT : Touch (· = p2) w4 (((w4.setCell ⟨p2, 7, none⟩ (.pointer (some ⟨g2, 0, none⟩))).setCell ⟨p2, 8, none⟩ (.map (some k3))).setCell ⟨p2, 9, none⟩ (.slice A4 st.again.length c4)) := Touch.st (Touch.st (Touch.st (Touch.refl (· = p2) w4) rfl) rfl) rfl
    have hIN : SendIn (((w4.setCell ⟨p2, 7, none⟩ (.pointer (some ⟨g2, 0, none⟩))).setCell ⟨p2, 8, none⟩ (.map (some k3))).setCell ⟨p2, 9, none⟩ (.slice A4 st.again.length c4)) p2 g2 b2 k3 A4 c4 st :=
      ⟨((bw.set 7 _).set 8 _).set 9 _, r4.touch hT (fun e => by omega) (fun x hx e => by have := e2b x hx; omega), mp4.touch hT (fun e => by omega), m4.sl.touch hT (fun ad hA e => by have := e4 ad hA; omega)⟩
    have HX : Hid (∃ p' F', Ending.returned (.pointer (some ⟨p2, 0, none⟩)) = .returned (.pointer (some ⟨p', 0, none⟩)) ∧ SendAt (((w4.setCell ⟨p2, 7, none⟩ (.pointer (some ⟨g2, 0, none⟩))).setCell ⟨p2, 8, none⟩ (.map (some k3))).setCell ⟨p2, 9, none⟩ (.slice A4 st.again.length c4)) p' F' st ∧
        Fresh w (((w4.setCell ⟨p2, 7, none⟩ (.pointer (some ⟨g2, 0, none⟩))).setCell ⟨p2, 8, none⟩ (.map (some k3))).setCell ⟨p2, 9, none⟩ (.slice A4 st.again.length c4)) ∧ ∀ x, F' x → w.heap.size ≤ x) := by
      have hp0 : p2 = w.heap.size := HP.out
      have h1 := F1.out.size
      exact ⟨p2, fun x => w.heap.size ≤ x, rfl, SendAt.mk' hIN ⟨by omega, by omega, fun x hx => by have := e2b x hx; omega, by omega, fun ad hA => by have := e4 ad hA; omega⟩, (F1.out.trans g4' (fun _ _ h => h)).trans hT (fun k hk e => by omega), fun _ h => h⟩
    clear bw hlt1 s2 s3 e2 e2b e3 e4 r4 mp4 hIN hT r2 m3 m4 f2 f3 hg2 hb2 hk3 T1 T2 T3 T4 f1 g2' g3' g4' y4 y5 y6 z4 z5 z6 KE HCM HCS HCR FZ FY B1' hp2 F1 HP
    go_wp2
    go_ret
    exact HX.out
end Go.Proofs.YtajdnllkkekmnaaGreat

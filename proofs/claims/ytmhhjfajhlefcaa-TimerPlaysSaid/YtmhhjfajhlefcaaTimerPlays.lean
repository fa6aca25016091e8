/-
  polliwoglaw08.TimerPlays: behind any calls each timer has what the document says.
-/
import Derived.Test.YtmhhjfajhlefcaaAwakeT
import Derived.Test.YtmhhjfajhlefcaaNum
import Derived.Test.YtmhhjfajhlefcaaOpen
import Derived.Test.YtmhhjfajhlefcaaSame
import Derived.Deep.DeepCutAuto
import Derived.Deep.CutBlock
namespace Go.Proofs.Ytmhhjfajhlefcaa
open Go.RowKit

def actE : El (Int × Int × Int) := { e := 37, size := 3, bytes := 24, zero := .agg #[.int .i64 0, .int .i64 0, .int .i64 0], enc := fun x => [.int .i64 x.1, .int .i64 x.2.1, .int .i64 x.2.2], len := fun _ => rfl, one := by simp [Value.oneCell'], pos := by decide, zsize := rfl }

theorem open_rd_act {H : Type} {enc : TypeId × Value → H} {W : World} {base : Nat} {v : Value} {d : DataW H} {p : List MemPlace}
    (hv : Value.okWide Try.prog W .any base 35 v) (h : DataW.Trod enc Try.prog W 0 (fun _ => true) true 35 v d p) :
    ∃ A c l, v = .slice A l.length c ∧ Rd actE W A c l ∧ (∀ x ∈ l, True) :=
  open_rd actE Try.underlying35 (by kernel_rfl) (fun n cs y hy => by
    obtain ⟨hl, m, hf⟩ := open_fields Try.underlying37 (by kernel_rfl) (by kernel_rfl) hy
    match cs, hl with
    | [c0, c1, c2], _ =>
      obtain ⟨_, f0⟩ := hf 0 _ rfl
      obtain ⟨_, f1⟩ := hf 1 _ rfl
      obtain ⟨_, f2⟩ := hf 2 _ rfl
      obtain ⟨x0, e0, _, _⟩ := DataW.trod_int Try.underlying3 f0
      obtain ⟨x1, e1, _, _⟩ := DataW.trod_int Try.underlying3 f1
      obtain ⟨x2, e2, _, _⟩ := DataW.trod_int Try.underlying3 f2
      simp at e0 e1 e2
      subst e0 e1 e2
      exact ⟨(x0, x1, x2), rfl, trivial⟩) hv h

/-- The bank and the list beside it hold the same counts. -/
structure TpSt (w wx : World) (gb gl : Nat) (l : List Int) : Prop where
  lo : w.heap.size ≤ gl
  lob : w.heap.size ≤ gb
  bk : Bk wx gb 25 l []
  bl : Blk wx gl 3 (l.map (Value.int .i64))
  tch : Touch (fun j => w.heap.size ≤ j) w wx

theorem TpSt.ne {w wx : World} {gb gl : Nat} {l : List Int} (h : TpSt w wx gb gl l) : gb ≠ gl := h.bk.2.2.ne_ h.bl (by decide)
theorem TpSt.cell {w wx : World} {gb gl : Nat} {l : List Int} (h : TpSt w wx gb gl l) {i : Nat} (hi : i < 5) : wx.cell? ⟨gl, i, none⟩ = some (.int .i64 (l.getD i 0)) := by
  rw [h.bl.cell]
  simp [List.getD, List.getElem?_eq_getElem (show i < l.length by have := h.bk.1; omega)]

theorem TpSt.put {w wa w5 : World} {gb gl : Nat} {l l' : List Int} (h : TpSt w wa gb gl l) (hb : Bk w5 gb 25 l' []) (t : Touch (· = gb) wa w5) (i : Nat) (x : Int) (hl : l' = l.set i x) :
    TpSt w (w5.setCell ⟨gl, i, none⟩ (.int .i64 x)) gb gl l' := by
  have hne := h.ne
  have hs := h.tch.size
  refine ⟨h.lo, h.lob, ⟨hb.1, hb.2.1, hb.2.2.far (p := ⟨gl, i, none⟩) hne _⟩, ?_, (h.tch.trans t (fun k hk hkg => by have : k = gb := hkg; have := h.lob; omega)).st h.lo⟩
  have h1 := (t.blk h.bl (fun e => hne e.symm)).set i (.int .i64 x)
  rw [hl, List.map_set]
  exact h1
theorem TpSt.same {w wa w5 : World} {gb gl : Nat} {l l' : List Int} (h : TpSt w wa gb gl l) (hb : Bk w5 gb 25 l' []) (t : Touch (· = gb) wa w5) (hl : l' = l) : TpSt w w5 gb gl l' := by
  have hne := h.ne
  have hs := h.tch.size
  subst hl
  exact ⟨h.lo, h.lob, hb, t.blk h.bl (fun e => hne e.symm), h.tch.trans t (fun k hk hkg => by have : k = gb := hkg; have := h.lob; omega)⟩
theorem TpSt.alloc {w wa : World} {gb gl : Nat} {l : List Int} (h : TpSt w wa gb gl l) (o : Obj) : TpSt w (wa.alloc o) gb gl l :=
  ⟨h.lo, h.lob, ⟨h.bk.1, h.bk.2.1, h.bk.2.2.alloc _⟩, h.bl.alloc _, h.tch.alloc _⟩

set_option maxRecDepth 100000 in
set_option maxHeartbeats 4000000 in
theorem timerPlays.core (A : Option Addr) (c : Nat) (L : List (Int × Int × Int)) (w : World) (hr : Rd actE w A c L) :
    Calls Try.prog 5 #[.slice A L.length c] w fun e w' => e = .returned (.bool true) ∧ Below w.heap.size w w' := by
  have hlc := hr.1
  have hcm := hr.2.1
  unfold maxLen at hcm
  have HR := Lib.hid hr
  clear hr
  have hmk : ∀ w, (Instr.makeSlice 27 (.int .i64 5) (.int .i64 5)).run Try.prog w = .ok (.slice (some ⟨w.heap.size, 0, none⟩) 5 5) (w.alloc (.cells #[.int .i64 0, .int .i64 0, .int .i64 0, .int .i64 0, .int .i64 0] 3)) := fun _ => by kernel_rfl
  go_enter Try.func5, Try.ntmps5
  go_wp2_with fail
  refine (awake_any _).mono ?_
  rintro e w1 ⟨rfl, t1⟩
  have HT := Lib.hid t1
  have hs1 := t1.size
  clear t1
  go_wp2_with fail
  go_loopw [4, 5] (fun v i wr => ∃ (k gl : Nat) (l : List Int), k ≤ 150 ∧ k ≤ L.length ∧ i = .int .i64 k ∧ v = .slice (some ⟨gl, 0, none⟩) 5 5 ∧ TpSt w wr w1.heap.size gl l) (fun _ i _ => 150 - (intOf i).toNat)
  case atStart =>
    refine ⟨0, w1.heap.size + 1, [0, 0, 0, 0, 0], by omega, by omega, rfl, rfl, by omega, by omega, ?_, ?_, ?_⟩
    · exact ⟨rfl, by simp, (Blk.new w1 25 [.int .i64 0, .int .i64 0, .int .i64 0, .int .i64 0, .int .i64 0]).alloc _⟩
    · have := Blk.new (w1.alloc (.cells #[.int .i64 0, .int .i64 0, .int .i64 0, .int .i64 0, .int .i64 0] 25)) 3 [.int .i64 0, .int .i64 0, .int .i64 0, .int .i64 0, .int .i64 0]
      simpa using this
    · exact ((HT.out.mono (fun _ _ h => h.elim)).alloc _).alloc _
  case round =>
    obtain ⟨k, gl, l, hk5, hkl, rfl, rfl, st⟩ := hrel
    have ST := Lib.hid st
    by_cases h1 : k < L.length
    · by_cases h2 : k < 150
      · obtain ⟨g, o, rfl, hg, hc⟩ := (HR.out.touch st.tch (fun ad ha hl => by have := HR.out.lt hl ad ha; omega)).at_ k h1
        generalize L[k] = x at hc
        obtain ⟨kd, T, N⟩ := x
        have c0 : wr.cell? ⟨g, o + k * 3, none⟩ = some (.int .i64 kd) := hc 0 _ rfl
        have c1 : wr.cell? ⟨g, o + k * 3 + 1, none⟩ = some (.int .i64 T) := hc 1 _ rfl
        have c2 : wr.cell? ⟨g, o + k * 3 + 2, none⟩ = some (.int .i64 N) := hc 2 _ rfl
        clear hc st
        go_upto_region 9 with (fail)
        go_cut [7] (fun v wx => (∃ q : Bool, v = .bool q ∧ Hid (q = decide (0 ≤ T ∧ T < 5))) ∧ wx = wr.alloc (.cells #[.int .i64 kd, .int .i64 T, .int .i64 N] 37))
        case first =>
          by_cases hT0 : 0 ≤ T
          · by_cases hT5 : T < 5
            · have hd : decide (0 ≤ T ∧ T < 5) = true := by simp [hT0, hT5]
              go_wp2
              go_meet
              case rel => exact ⟨⟨_, rfl, hd.symm⟩, rfl⟩
            · have hd : decide (0 ≤ T ∧ T < 5) = false := by simp [hT5]
              go_wp2
              go_meet
              case rel => exact ⟨⟨_, rfl, hd.symm⟩, rfl⟩
          · have hd : decide (0 ≤ T ∧ T < 5) = false := by simp [hT0]
            go_wp2
            go_meet
            case rel => exact ⟨⟨_, rfl, hd.symm⟩, rfl⟩
        case rest =>
          obtain ⟨⟨qin, rfl, hqin⟩, hwc⟩ := hcut
          obtain ⟨ga, hga⟩ : ∃ ga, Hid (ga = wr.heap.size) := ⟨_, rfl⟩
          have SA : Hid (TpSt w wc w1.heap.size gl l) := by rw [hwc]; exact ST.out.alloc _
          have BA : Hid (Blk wc ga 37 [.int .i64 kd, .int .i64 T, .int .i64 N]) := by rw [hwc, hga.out]; exact Blk.new wr _ _
          have hlga : w.heap.size ≤ ga := by rw [hga.out]; exact ST.out.tch.size
          rw [← hga.out]
          clear hga hwc c0 c1 c2 ST
          have a0 : wc.cell? ⟨ga, 0, none⟩ = some (.int .i64 kd) := BA.out.cell 0
          go_upto_block 2 with (fail)
          go_cut [4] (fun v wx => ∃ gl' l', v = .slice (some ⟨gl', 0, none⟩) 5 5 ∧ TpSt w wx w1.heap.size gl' l' ∧ Blk wx ga 37 [.int .i64 kd, .int .i64 T, .int .i64 N])
          case first =>
            have a1 : wc.cell? ⟨ga, 1, none⟩ = some (.int .i64 T) := BA.out.cell 1
            have a2 : wc.cell? ⟨ga, 2, none⟩ = some (.int .i64 N) := BA.out.cell 2
            have hnab : ga ≠ w1.heap.size := BA.out.ne_ SA.out.bk.2.2 (by decide)
            have hnal : ga ≠ gl := BA.out.ne_ SA.out.bl (by decide)
            by_cases k1 : kd = 1
            · have kb1 : (kd == 1) = true := by simp [k1]
              have K1 := Lib.hid k1
              clear k1
              go_wp2_with fail
              clear a0 a1 a2
              refine (stop_any _ _ _ _ _ _ SA.out.bk).mono ?_
              rintro e w5 ⟨rfl, b5, t5⟩
              have B5 := Lib.hid b5
              have T5 := Lib.hid t5
              have BA5 : Hid (Blk w5 ga 37 [.int .i64 kd, .int .i64 T, .int .i64 N]) := t5.blk BA.out hnab
              have hcl : ∀ i : Nat, w5.cell? ⟨gl, i, none⟩ = (l.map (Value.int .i64))[i]? := (t5.blk SA.out.bl (fun e => SA.out.ne e.symm)).cell
              have hfl : ∀ i : Nat, w5.frozen? ⟨gl, i, none⟩ = false := (t5.blk SA.out.bl (fun e => SA.out.ne e.symm)).frozen
              clear b5 t5
              cases qin
              case true =>
                have hin : 0 ≤ T ∧ T < 5 := by have := hqin.out; simpa using this.symm
                have hp : Hid (TpSt w (w5.setCell ⟨gl, T.toNat, none⟩ (.int .i64 0)) w1.heap.size gl (Tm.stop l T)) := SA.out.put B5.out T5.out _ _ (by unfold Tm.stop; rw [if_pos hin])
                obtain ⟨h0, h5⟩ := hin
                have a1 : w5.cell? ⟨ga, 1, none⟩ = some (.int .i64 T) := BA5.out.cell 1
                have hc1 : w5.cell? ⟨gl, T.toNat, none⟩ = some (.int .i64 (l.getD T.toNat 0)) := by
                  rw [hcl]
                  simp [List.getD, List.getElem?_eq_getElem (show T.toNat < l.length by have := SA.out.bk.1; omega)]
                have hf1 := hfl T.toNat
                generalize l.getD T.toNat 0 = x at hc1
                clear hcl hfl
                go_wp2
                go_meet
                case rel => exact ⟨gl, _, rfl, hp.out, BA5.out.far (p := ⟨gl, T.toNat, none⟩) hnal _⟩
              case false =>
                have hin : ¬ (0 ≤ T ∧ T < 5) := by have := hqin.out; simpa using this
                have hp : Hid (TpSt w w5 w1.heap.size gl (Tm.stop l T)) := SA.out.same B5.out T5.out (by unfold Tm.stop; rw [if_neg hin])
                clear hin hcl hfl
                go_wp2
                go_meet
                case rel => exact ⟨gl, _, rfl, hp.out, BA5.out⟩
            · have kb1 : (kd == 1) = false := by simp [k1]
              by_cases k2 : kd = 2
              · have kb2 : (kd == 2) = true := by simp [k2]
                have K2 := Lib.hid k2
                clear k2 k1
                clear a1 a2
                go_wp2_with fail
                clear a0
                go_loopw [8, 70] (fun v i wx => ∃ (j : Nat) (A8 : Option Addr) (c8 : Nat) (Lo : List Int), j ≤ 5 ∧ i = .int .i64 j ∧ v = .slice A8 Lo.length c8 ∧ Hid (Lo = Tm.overTo l j) ∧ Sl intE wx A8 c8 Lo ∧
                  (∀ ad, A8 = some ad → wc.heap.size ≤ ad.block) ∧ Blk wx gl 3 ((Tm.tickTo l j).map (Value.int .i64)) ∧ Touch (· = gl) wc wx) (fun _ i _ => 5 - (intOf i).toNat)
                case atStart => exact ⟨0, none, 0, [], by omega, rfl, rfl, rfl, Sl.nil _ _, fun _ h => by (cases h), by simpa [Tm.tickTo] using SA.out.bl, Touch.refl _ _⟩
                case round =>
                  obtain ⟨j, A8, c8, Lo, hj, rfl, rfl, hLo, hs8, hA8, hbl, htc⟩ := hrel
                  have hl5 := SA.out.bk.1
                  have hglc := SA.out.bl.lt
                  have hgbc := SA.out.bk.lt
                  have hA8g : ∀ ad, A8 = some ad → ad.block ≠ gl := fun ad ha => by have := hA8 ad ha; omega
                  by_cases hlt : j < 5
                  · have hxb := SA.out.bk.bd j
                    have hcell : wr.cell? ⟨gl, j, none⟩ = some (.int .i64 (l.getD j 0)) := by
                      rw [hbl.cell, ← Tm.tickTo_get l j]
                      have hlt' : j < (Tm.tickTo l j).length := by unfold Tm.tickTo; simp; omega
                      simp [List.getD, List.getElem?_eq_getElem hlt']
                    have hfr := hbl.frozen j
                    have hset : ∀ wz, Blk wz gl 3 ((Tm.tickTo l j).map (Value.int .i64)) → Blk (wz.setCell ⟨gl, j, none⟩ (.int .i64 (Tm.dec (l.getD j 0)))) gl 3 ((Tm.tickTo l (j + 1)).map (Value.int .i64)) := fun wz hz => by
                      rw [Tm.tickTo_succ l j (by omega), List.map_set]; exact hz.set j _
                    have HSet := Lib.hid hset
                    have HBl := Lib.hid hbl
                    have HTc := Lib.hid htc
                    have hov := Tm.overTo_succ l j
                    have hll : Lo.length ≤ j := by rw [hLo.out]; exact Tm.overTo_len l j
                    clear hset hbl htc hl5
                    by_cases hx1 : l.getD j 0 = 1
                    · have HO : Hid (Tm.overTo l (j + 1) = Lo ++ [(j : Int)]) := by show _ = _; rw [hov, if_pos hx1, hLo.out]
                      rw [hx1] at hcell HSet
                      clear hov hx1 hxb
                      go_wp2_with (at_builtin; refine app_int rfl rfl (l := Lo) (l2 := [(j : Int)]) rfl rfl (hs8.alloc _) (Sl.rd (Sl.lit intE _ _ rfl _ _ rfl _ rfl (by decide))) (by simp; omega) ?_; intro A' c' L' w' HL' hs' ht' hA'; have hcell' : w'.cell? ⟨gl, j, none⟩ = some (.int .i64 1) := ((ht'.blk (HBl.out.alloc _) (fun e => by cases A8 with | none => (cases e) | some ad => (have := hA8g ad rfl; simp at e; omega))).cell j).trans ((HBl.out.cell j).symm.trans hcell); have hfr' : w'.frozen? ⟨gl, j, none⟩ = false := (ht'.blk (HBl.out.alloc _) (fun e => by cases A8 with | none => (cases e) | some ad => (have := hA8g ad rfl; simp at e; omega))).frozen j)
                      have hA8g' : ∀ (k : Nat), k < wc.heap.size → A8.map Addr.block = some k → False := fun k hk e => by
                        cases A8 with
                        | none => cases e
                        | some ad => have := hA8 ad rfl; simp at e; omega
                      have hfin : Hid (Sl intE (w'.setCell ⟨gl, j, none⟩ (.int .i64 0)) A' c' L' ∧ (∀ ad, A' = some ad → wc.heap.size ≤ ad.block) ∧ Blk (w'.setCell ⟨gl, j, none⟩ (.int .i64 0)) gl 3 ((Tm.tickTo l (j + 1)).map (Value.int .i64)) ∧ Touch (· = gl) wc (w'.setCell ⟨gl, j, none⟩ (.int .i64 0))) := by
                        have hA2 : ∀ ad, A' = some ad → wc.heap.size ≤ ad.block := fun ad ha => by
                          subst ha
                          rcases hA' with e | e
                          · cases A8 with
                            | none => cases e
                            | some ad0 => have := hA8 ad0 rfl; simp at e; omega
                          · have := HTc.out.size; simp at e; omega
                        refine ⟨hs'.setCell (p := ⟨gl, j, none⟩) (fun ad ha => by have := hA2 ad ha; simp; omega) _, hA2, ?_, ?_⟩
                        · exact HSet.out w' (ht'.blk (HBl.out.alloc _) (fun e => hA8g' gl hglc e))
                        · exact ((HTc.out.alloc _).trans ht' (fun k hk e => (hA8g' k hk e).elim)).st rfl
                      clear hcell' hfr' hs' ht' hA' hA8g'
                      go_roundw
                      case rel => exact ⟨j + 1, A', c', L', by omega, by go_num, rfl, HL'.out.trans HO.out.symm, hfin.out.1, hfin.out.2.1, hfin.out.2.2.1, hfin.out.2.2.2⟩
                      case measure => simp [intOf]; omega
                    · have HO : Hid (Lo = Tm.overTo l (j + 1)) := by show _ = _; rw [hov, if_neg hx1, List.append_nil, hLo.out]
                      have hb1 : (l.getD j 0 == 1) = false := by simpa using hx1
                      have hdec : Hid (Tm.dec (l.getD j 0) = if 1 < l.getD j 0 then l.getD j 0 - 1 else 0) := by show _ = _; unfold Tm.dec; split <;> split <;> omega
                      generalize l.getD j 0 = x at *
                      obtain ⟨y, hy⟩ : ∃ y, (if 1 < x then x - 1 else 0) = y := ⟨_, rfl⟩
                      have hfin : Hid (Sl intE (wr.setCell ⟨gl, j, none⟩ (.int .i64 y)) A8 c8 Lo ∧ Blk (wr.setCell ⟨gl, j, none⟩ (.int .i64 y)) gl 3 ((Tm.tickTo l (j + 1)).map (Value.int .i64)) ∧ Touch (· = gl) wc (wr.setCell ⟨gl, j, none⟩ (.int .i64 y))) := by
                        have e : y = Tm.dec x := by rw [hdec.out, hy]
                        rw [e]
                        exact ⟨hs8.setCell (p := ⟨gl, j, none⟩) hA8g _, HSet.out wr HBl.out, HTc.out.st rfl⟩
                      clear hov hx1 hs8 hdec
                      go_wp2
                      go_roundw
                      case rel => exact ⟨j + 1, A8, c8, Lo, by omega, by go_num, rfl, HO.out, hfin.out.1, hA8, hfin.out.2.1, hfin.out.2.2⟩
                      case measure => simp [intOf]; omega
                  · have e5 : j = 5 := by omega
                    subst e5
                    have hbk : Bk wr w1.heap.size 25 l [] := ⟨SA.out.bk.1, SA.out.bk.2.1, htc.blk SA.out.bk.2.2 SA.out.ne⟩
                    have hba : Hid (Blk wr ga 37 [.int .i64 kd, .int .i64 T, .int .i64 N]) := htc.blk BA.out hnal
                    have HBl := Lib.hid hbl
                    have HTc := Lib.hid htc
                    clear hbl htc hl5
                    go_wp2_with fail
                    refine (tick_any _ _ (by decide) _ _ _ hbk).mono ?_
                    rintro e w6 ⟨A6, c6, rfl, s6, b6, t6⟩
                    have s8' : Sl intE w6 A8 c8 Lo := hs8.touch t6 (fun ad ha e => by have := hA8 ad ha; omega)
                    have hov : Hid (Tm.over l = Lo) := hLo.out.symm
                    go_wp2_with fail
                    refine (same_any _ _ _ _ _ _ _ s6.rd s8'.rd).mono ?_
                    rintro e w7 ⟨rfl, t7⟩
                    have hdd : decide (Tm.over l = Lo) = true := decide_eq_true hov.out
                    rw [hdd]
                    have hfin : Hid (TpSt w w7 w1.heap.size gl (Tm.tick l) ∧ Blk w7 ga 37 [.int .i64 kd, .int .i64 T, .int .i64 N]) := by
                      have hne := SA.out.ne
                      have hsz := SA.out.tch.size
                      refine ⟨⟨SA.out.lo, SA.out.lob, ⟨b6.1, b6.2.1, t7.blk b6.2.2 (fun h => h)⟩, ?_, ?_⟩, t7.blk (t6.blk hba.out hnab) (fun h => h)⟩
                      · rw [← Tm.tickTo_all l SA.out.bk.1]
                        exact t7.blk (t6.blk HBl.out (fun e => hne e.symm)) (fun h => h)
                      · exact ((SA.out.tch.trans HTc.out (fun k hk e => by have : k = gl := e; have := SA.out.lo; omega)).trans t6 (fun k hk e => by have : k = w1.heap.size := e; omega)).trans t7 (fun k hk e => e.elim)
                    clear hbk s6 b6 t6 t7 s8' hov hdd
                    go_wp2
                    go_meet
                    case rel => exact ⟨gl, _, rfl, hfin.out.1, hfin.out.2⟩
              · have kb2 : (kd == 2) = false := by simp [k2]
                by_cases k3 : kd = 3
                · have kb3 : (kd == 3) = true := by simp [k3]
                  have K3 := Lib.hid k3
                  clear k3 k1 k2 a1 a2
                  go_wp2_with fail
                  clear a0
                  refine (clear_any _ _ _ _ SA.out.bk).mono ?_
                  rintro e w5 ⟨rfl, b5, t5⟩
                  have hp : Hid (TpSt w (w5.alloc (.cells #[.int .i64 0, .int .i64 0, .int .i64 0, .int .i64 0, .int .i64 0] 3)) w1.heap.size w5.heap.size [0, 0, 0, 0, 0]) := by
                    have h1 := SA.out.tch.size
                    have h2 := t5.size
                    refine ⟨by omega, SA.out.lob, ⟨b5.1, b5.2.1, b5.2.2.alloc _⟩, Blk.new w5 _ _, (SA.out.tch.trans t5 (fun k hk hkg => by have : k = w1.heap.size := hkg; omega)).alloc _⟩
                  have BA5 : Hid (Blk (w5.alloc (.cells #[.int .i64 0, .int .i64 0, .int .i64 0, .int .i64 0, .int .i64 0] 3)) ga 37 [.int .i64 kd, .int .i64 T, .int .i64 N]) := (t5.blk BA.out hnab).alloc _
                  clear b5 t5
                  go_wp2
                  go_meet
                  case rel => exact ⟨_, _, rfl, hp.out, BA5.out⟩
                · have kb3 : (kd == 3) = false := by simp [k3]
                  clear k1 k2 k3
                  go_wp2_with fail
                  clear a0 a1 a2
                  refine (start_any _ _ _ _ _ _ _ SA.out.bk).mono ?_
                  rintro e w5 ⟨rfl, b5, t5⟩
                  have B5 := Lib.hid b5
                  have T5 := Lib.hid t5
                  have BA5 : Hid (Blk w5 ga 37 [.int .i64 kd, .int .i64 T, .int .i64 N]) := t5.blk BA.out hnab
                  have hcl : ∀ i : Nat, w5.cell? ⟨gl, i, none⟩ = (l.map (Value.int .i64))[i]? := (t5.blk SA.out.bl (fun e => SA.out.ne e.symm)).cell
                  have hfl : ∀ i : Nat, w5.frozen? ⟨gl, i, none⟩ = false := (t5.blk SA.out.bl (fun e => SA.out.ne e.symm)).frozen
                  clear b5 t5
                  cases qin
                  case true =>
                    have hin : 0 ≤ T ∧ T < 5 := by have := hqin.out; simpa using this.symm
                    obtain ⟨m, hm⟩ : ∃ m, (if 1048576 < N then (1048576 : Int) else N) = m := ⟨_, rfl⟩
                    obtain ⟨m', hm'⟩ : ∃ m', (if 1 < m then m else 1) = m' := ⟨_, rfl⟩
                    have hmm : m' = max 1 (min N 1048576) := by rw [← hm', ← hm]; split <;> split <;> omega
                    have hp : Hid (TpSt w (w5.setCell ⟨gl, T.toNat, none⟩ (.int .i64 m')) w1.heap.size gl (Tm.start l T N)) := SA.out.put B5.out T5.out _ _ (by unfold Tm.start; rw [if_pos hin, hmm])
                    clear hmm
                    obtain ⟨h0, h5⟩ := hin
                    have a1 : w5.cell? ⟨ga, 1, none⟩ = some (.int .i64 T) := BA5.out.cell 1
                    have a2 : w5.cell? ⟨ga, 2, none⟩ = some (.int .i64 N) := BA5.out.cell 2
                    have hc1 : w5.cell? ⟨gl, T.toNat, none⟩ = some (.int .i64 (l.getD T.toNat 0)) := by
                      rw [hcl]
                      simp [List.getD, List.getElem?_eq_getElem (show T.toNat < l.length by have := SA.out.bk.1; omega)]
                    have hf1 := hfl T.toNat
                    generalize l.getD T.toNat 0 = x at hc1
                    clear hcl hfl
                    go_wp2
                    go_meet
                    case rel => exact ⟨gl, _, rfl, hp.out, BA5.out.far (p := ⟨gl, T.toNat, none⟩) hnal _⟩
                  case false =>
                    have hin : ¬ (0 ≤ T ∧ T < 5) := by have := hqin.out; simpa using this
                    have hp : Hid (TpSt w w5 w1.heap.size gl (Tm.start l T N)) := SA.out.same B5.out T5.out (by unfold Tm.start; rw [if_neg hin])
                    clear hin hcl hfl
                    go_wp2
                    go_meet
                    case rel => exact ⟨gl, _, rfl, hp.out, BA5.out⟩
          case rest =>
            clear SA BA a0
            obtain ⟨gl', l', rfl, st', ba'⟩ := hcut
            obtain ⟨wd, hwd⟩ : ∃ wd, wd = wc := ⟨_, rfl⟩
            rw [← hwd] at st' ba' ⊢
            clear hwd
            have S' := Lib.hid st'
            have B' := Lib.hid ba'
            clear st' ba'
            go_wp2_with fail
            go_loop [10, 102] (fun b i => ∃ q : Nat, q ≤ 5 ∧ i = .int .i64 q ∧ b = .int .i64 (Tm.nextTo l' q)) (fun _ i => 5 - (intOf i).toNat)
            case atStart => exact ⟨0, by omega, rfl, rfl⟩
            case round =>
              obtain ⟨q, hq, rfl, rfl⟩ := hrel
              have hlen := S'.out.bk.1
              have hbd := S'.out.bk.2.1
              by_cases hq5 : q < 5
              · have hc := S'.out.cell hq5
                have hs := Tm.nextTo_succ l' q (by omega)
                have hleft : Tm.left l' q = l'.getD q 0 := by unfold Tm.left; rw [if_pos (by omega)]; simp
                have hn := next_bd l' hbd q (by omega)
                have HS := Lib.hid hs
                have HL := Lib.hid hleft
                clear hs hleft hlen hbd
                generalize l'.getD q 0 = x at *
                go_wp2_with fail
                refine (left_any _ _ _ _ _ _ S'.out.bk).mono ?_
                rintro e w5 ⟨rfl, rfl⟩
                rw [HL.out]
                go_wp2_with fail
                refine (runs_any _ _ _ _ _ _ S'.out.bk).mono ?_
                rintro e w5 ⟨rfl, rfl⟩
                rw [HL.out]
                generalize Tm.nextTo l' q = y at *
                clear hc
                by_cases hx0 : 0 < x
                · by_cases hy0 : y = 0
                  · have hyb : (y == 0) = true := by simp [hy0]
                    have HY := Lib.hid hy0
                    clear hy0
                    go_wp2
                    go_round
                    case rel => exact ⟨q + 1, by omega, by go_num, by rw [HS.out, if_pos ⟨hx0, .inl HY.out⟩]⟩
                    case measure => simp [intOf]; omega
                  · have hyb : (y == 0) = false := by simp [hy0]
                    by_cases hxy : x < y
                    · go_wp2
                      go_round
                      case rel => exact ⟨q + 1, by omega, by go_num, by rw [HS.out, if_pos ⟨hx0, .inr hxy⟩]⟩
                      case measure => simp [intOf]; omega
                    · go_wp2
                      go_round
                      case rel => exact ⟨q + 1, by omega, by go_num, by rw [HS.out, if_neg (by omega)]⟩
                      case measure => simp [intOf]; omega
                · go_wp2
                  go_round
                  case rel => exact ⟨q + 1, by omega, by go_num, by rw [HS.out, if_neg (by omega)]⟩
                  case measure => simp [intOf]; omega
              · have e5 : q = 5 := by omega
                subst e5
                clear hlen hbd
                have hfin : Tm.nextTo l' 5 = Tm.next l' := rfl
                rw [hfin]
                clear hfin
                go_wp2_with fail
                refine (next_any _ _ _ _ _ S'.out.bk).mono ?_
                rintro e w5 ⟨rfl, rfl⟩
                generalize Tm.next l' = y at *
                cases qin
                case true =>
                  clear hqin
                  go_wp2
                  go_roundw
                  case rel => exact ⟨k + 1, gl', l', by omega, by omega, by go_num, rfl, S'.out⟩
                  case measure => simp [intOf]; omega
                case false =>
                  have hin : ¬ (0 ≤ T ∧ T < 5) := by have := hqin.out; simpa using this
                  clear hqin
                  have a1 : wd.cell? ⟨ga, 1, none⟩ = some (.int .i64 T) := B'.out.cell 1
                  have hl0 : Hid (Tm.left l' T = 0) := by show _ = _; unfold Tm.left; rw [if_neg hin]
                  clear hin
                  go_wp2_with fail
                  refine (left_any _ _ _ _ _ _ S'.out.bk).mono ?_
                  rintro e w5 ⟨rfl, rfl⟩
                  rw [hl0.out]
                  go_wp2_with fail
                  refine (runs_any _ _ _ _ _ _ S'.out.bk).mono ?_
                  rintro e w5 ⟨rfl, rfl⟩
                  rw [hl0.out]
                  go_wp2
                  go_roundw
                  case rel => exact ⟨k + 1, gl', l', by omega, by omega, by go_num, rfl, S'.out⟩
                  case measure => simp [intOf]; omega
      · clear st
        go_wp2
        go_ret
        exact ⟨rfl, ST.out.tch.below (Nat.le_refl _) (fun j hj h => by omega)⟩
    · clear st
      go_wp2
      go_ret
      exact ⟨rfl, ST.out.tch.below (Nat.le_refl _) (fun j hj h => by omega)⟩

theorem timerPlays.walk (v : Value) (w : World) {H : Type} {enc : TypeId × Value → H} {base : Nat} {d : DataW H} {p : List MemPlace} (hv : Value.okWide Try.prog w .any base 35 v) (h : DataW.Trod enc Try.prog w 0 (fun _ => true) true 35 v d p) :
    Calls Try.prog 5 #[v] w fun e w' => e = .returned (.bool true) ∧ Below w.heap.size w w' := by
  obtain ⟨A, c, l, rfl, hr, _⟩ := open_rd_act hv h
  exact timerPlays.core A c l w hr
end Go.Proofs.Ytmhhjfajhlefcaa

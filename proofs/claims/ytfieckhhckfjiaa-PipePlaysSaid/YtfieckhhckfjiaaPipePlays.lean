/-
  polliwoglaw17.PipePlays: behind any calls a pipe has what the document says, and what comes of a frame is what was chosen.
-/
import Derived.Test.YtfieckhhckfjiaaPipeOrder
import Derived.Lib.SliceRun
namespace Go.Proofs.Ytfieckhhckfjiaa
open Go.RowKit Go.ChangeShapes Go.WideShapes Go.ChangeAt

def act17E : El (Int × ByteArray × Int × Int × Int) := { e := 73, size := 5, bytes := 48, zero := .agg #[.int .i64 0, .string ByteArray.empty, .int .i64 0, .int .i64 0, .int .u32 0], zel := (0, ByteArray.empty, 0, 0, 0), enc := fun x => [.int .i64 x.1, .string x.2.1, .int .i64 x.2.2.1, .int .i64 x.2.2.2.1, .int .u32 x.2.2.2.2], len := fun _ => rfl, one := by simp [Value.oneCell'], pos := by decide, zsize := rfl, zenc := rfl }
def GoodAct (x : Int × ByteArray × Int × Int × Int) : Prop := x.2.1.size ≤ maxLen ∧ 0 ≤ x.2.2.2.2 ∧ x.2.2.2.2 ≤ 4294967295
theorem dec_act17 {H : Type} {enc : TypeId × Value → H} {W : World} (n : Nat) (cs : List Value) (y : DataW H × List MemPlace) (hy : DataW.trod enc Try.prog W 0 (fun _ => true) true n act17E.e cs = some y) : ∃ a, cs = act17E.enc a ∧ GoodAct a := by
  obtain ⟨xs, m, _, _, hl, hx, hf⟩ := DataW.trod_struct Try.underlying73 hy
  have h5 : Try.prog.cellsOf 73 = 5 := by kernel_rfl
  have ci : Try.prog.cellsOf 3 = 1 := by kernel_rfl
  have cst : Try.prog.cellsOf 9 = 1 := by kernel_rfl
  have cc : Try.prog.cellsOf 58 = 3 := by kernel_rfl
  rw [h5] at hl
  match cs, hl with
  | [a0, a1, a2, a3, a4], _ =>
    have f0 := hf 0 _ rfl
    have f1 := hf 1 _ rfl
    have f2 := hf 2 _ rfl
    rw [List.getElem?_eq_getElem (by rw [hx]; decide)] at f0 f1 f2
    have f0 : DataW.trod enc Try.prog W 0 (fun _ => true) true m 3 ((List.drop 0 [a0, a1, a2, a3, a4]).take (Try.prog.cellsOf 3)) = _ := f0
    have f1 : DataW.trod enc Try.prog W 0 (fun _ => true) true m 9 ((List.drop 1 [a0, a1, a2, a3, a4]).take (Try.prog.cellsOf 9)) = _ := f1
    have f2 : DataW.trod enc Try.prog W 0 (fun _ => true) true m 58 ((List.drop 2 [a0, a1, a2, a3, a4]).take (Try.prog.cellsOf 58)) = _ := f2
    rw [ci] at f0
    rw [cst] at f1
    rw [cc] at f2
    simp only [List.drop_zero, List.drop_succ_cons, List.take_succ_cons, List.take_zero] at f0 f1 f2
    obtain ⟨x0, e0, _, _⟩ := DataW.trod_int Try.underlying3 f0
    obtain ⟨x1, e1, _, hs⟩ := DataW.trod_string Try.underlying9 f1
    obtain ⟨⟨x2, x3, x4⟩, e2, hg⟩ := dec_cho _ _ _ f2
    simp [choE] at e0 e1 e2
    obtain ⟨rfl, rfl, rfl⟩ := e2
    subst e0 e1
    exact ⟨(x0, x1, x2, x3, x4), rfl, hs, hg⟩
theorem Rd.act17_at {w : World} {A : Option Addr} {c : Nat} {l : List (Int × ByteArray × Int × Int × Int)} (h : Rd act17E w A c l) (k : Nat) (hk : k < l.length) :
    ∃ g o, A = some ⟨g, o, none⟩ ∧ g < w.heap.size ∧ w.cell? ⟨g, o + k * 5, none⟩ = some (.int .i64 l[k].1) ∧ w.cell? ⟨g, o + k * 5 + 1, none⟩ = some (.string l[k].2.1) ∧ w.cell? ⟨g, o + k * 5 + 2, none⟩ = some (.int .i64 l[k].2.2.1) ∧ w.cell? ⟨g, o + k * 5 + 3, none⟩ = some (.int .i64 l[k].2.2.2.1) ∧ w.cell? ⟨g, o + k * 5 + 4, none⟩ = some (.int .u32 l[k].2.2.2.2) := by
  obtain ⟨g, o, hA, hg, hc⟩ := h.at_ k hk
  exact ⟨g, o, hA, hg, hc 0 _ rfl, hc 1 _ rfl, hc 2 _ rfl, hc 3 _ rfl, hc 4 _ rfl⟩

theorem PipeAt.buniq {w : World} {gp gr m put came bad : Nat} {b b' : Option Nat} {q : List ByteArray} (h : PipeAt w gp gr b m q put came bad) (h' : PipeAt w gp gr b' m q put came bad) : b = b' := by
  obtain ⟨A, c, a, buf, h1, _, rfl, _⟩ := h.ring
  obtain ⟨A', c', a', buf', h1', _, rfl, _⟩ := h'.ring
  have := h1.uniq h1'
  simp at this
  rw [this.1.1]
theorem ringStr_allh (g : Nat) (b : Option Nat) (most : Nat) (q : List ByteArray) (w : World) (h : RingStr w g b most q) :
    Calls Try.prog 40 #[.pointer (some ⟨g, 0, none⟩)] w fun e w' => ∃ A' c', e = .returned (.slice A' q.length c') ∧ Sl strE w' A' c' q ∧ Fresh w w' := by
  obtain ⟨A, c, a, buf, hb, hs, rfl, hm1, hm2, hg⟩ := h
  exact (ringStr_all g A c a most buf q w hb hs ⟨hm1, hm2⟩ hg).mono fun e w' ⟨A', c', h1, h2, h3, _⟩ => ⟨A', c', h1, h2, h3⟩
theorem turn_s (s : ByteArray) (at_ mask : Int) (w : World) (hs : s.size ≤ 1000) (h0 : -1000 ≤ at_) (h1 : at_ ≤ 1000) (m0 : 0 ≤ mask) (m1 : mask ≤ 4294967295) :
    Calls Try.prog 38 #[.string s, .int .i64 at_, .int .u32 mask] w fun e w' => e = .returned (.string (flipS mask at_ s)) ∧ Fresh w w' := turn_any s at_ mask w hs h0 h1 m0 m1

set_option maxRecDepth 100000 in
set_option maxHeartbeats 8000000 in
theorem pipePlays.core (x x0 : Int) (m : Nat) (h0 : (if 256 < x then (256 : Int) else x) = x0) (h1 : (if 1 < x0 then x0 else 1) = (m : Int)) (hm : (max 1 (min x 256)).toNat = m) (hm2 : 1 ≤ m ∧ m ≤ 256)
    (A : Option Addr) (c : Nat) (L : List (Int × ByteArray × Int × Int × Int)) (w : World) (hr : Rd act17E w A c L) (hG : ∀ a ∈ L, GoodAct a) :
    Calls Try.prog 10 #[.int .i64 x, .slice A L.length c] w fun e w' => e = .returned (.bool true) ∧ Below w.heap.size w w' := by
  have hlc := hr.1
  have hcm := hr.2.1
  unfold maxLen at hcm
  have HR := Lib.hid hr
  have HGd := Lib.hid hG
  have HM := Lib.hid hm
  clear hr hm hG
  go_enter Try.func10, Try.ntmps10
  go_wp2_with fail
  refine (awake17_any _).mono ?_
  rintro e w1 ⟨rfl, t1⟩
  go_wp2_with fail
  refine (pipe_new x m HM.out w w1 t1).mono ?_
  rintro e w2 ⟨gp, rfl, h2⟩
  have H2 := Lib.hid h2
  clear h2 t1
  go_wp2_with fail
  clear h0 h1
  go_loopw [6, 7, 8, 9, 10] (fun s6 s7 s8 s9 i wr => ∃ (k put came bad : Nat) (q : List ByteArray) (A6 : Option Addr) (c6 : Nat), k ≤ 120 ∧ k ≤ L.length ∧ s6 = .slice A6 q.length c6 ∧ s7 = .int .i64 put ∧ s8 = .int .i64 came ∧ s9 = .int .i64 bad ∧ i = .int .i64 k ∧ put ≤ k ∧ came ≤ k ∧ bad ≤ k ∧ Hid (∀ s ∈ q, s.size ≤ 20) ∧ Hid (PlSt w wr gp m q put came bad A6 c6 q)) (fun _ _ _ _ i _ => 120 - (intOf i).toNat)
  case atStart => exact ⟨0, 0, 0, 0, [], none, 0, by omega, by omega, rfl, rfl, rfl, rfl, rfl, by omega, by omega, by omega, by simp [Hid], H2⟩
  case round =>
    clear H2
    obtain ⟨k, put, came, bad, q, A6, c6, hk120, hkL, rfl, rfl, rfl, rfl, rfl, hpk, hck, hbk, HQ, HS⟩ := hrel
    rcases (show (k < L.length ∧ k < 120) ∨ ¬ ((k : Int) < (L.length : Int)) ∨ ((k : Int) < (L.length : Int) ∧ ¬ ((k : Int) < 120)) by omega) with ⟨hkl, hk2⟩ | hend
    · as_aux_lemma =>
      have hk1 : (k : Int) < (L.length : Int) := by omega
      have hk2 : (k : Int) < 120 := by omega
      have hd1 : decide ((k : Int) < (L.length : Int)) = true := decide_eq_true hk1
      have hd2 : decide ((k : Int) < 120) = true := decide_eq_true hk2
      have hk0 : (0 : Int) ≤ (k : Int) := by omega
      have hqm := HS.out.len_le
      obtain ⟨gA, oA, rfl, hgA, hc0, hc1, hc2, hc3, hc4⟩ := (HR.out.touch HS.out.fresh (fun _ _ _ h => h)).act17_at k hkl
      have hga := HGd.out _ (List.getElem_mem hkl)
      obtain ⟨hgs, hgm0, hgm1⟩ := hga
      generalize L[k].1 = kd at *
      generalize L[k].2.1 = s0 at *
      generalize L[k].2.2.1 = kc at *
      generalize L[k].2.2.2.1 = ac at *
      generalize L[k].2.2.2.2 = mc at *
      have HSa := Lib.hid (HS.out.old ((Touch.refl _ wr).alloc (.cells #[.int .i64 kd, .string s0, .int .i64 kc, .int .i64 ac, .int .u32 mc] 73)))
      have HBa := Lib.hid (Blk.new wr 73 [.int .i64 kd, .string s0, .int .i64 kc, .int .i64 ac, .int .u32 mc])
      go_upto_region 13 with (fail)
      generalize wr.alloc (.cells #[.int .i64 kd, .string s0, .int .i64 kc, .int .i64 ac, .int .u32 mc] 73) = wa at *
      generalize wr.heap.size = ga at *
      have a0 : wa.cell? ⟨ga, 0, none⟩ = some (.int .i64 kd) := HBa.out.cell 0
      have a1 : wa.cell? ⟨ga, 1, none⟩ = some (.string s0) := HBa.out.cell 1
      have a2 : wa.cell? ⟨ga, 2, none⟩ = some (.int .i64 kc) := HBa.out.cell 2
      have a3 : wa.cell? ⟨ga, 3, none⟩ = some (.int .i64 ac) := HBa.out.cell 3
      have a4 : wa.cell? ⟨ga, 4, none⟩ = some (.int .u32 mc) := HBa.out.cell 4
      clear hgA hc0 hc1 hc2 hc3 hc4 HS
      have HCut := Lib.hid (cut_any s0 20 wa hgs (by decide))
      have hcs := cutB_size s0 20
      generalize cutB s0 20 = u at *
      go_wp2_with fail
      refine HCut.out.mono ?_
      rintro e w3 ⟨rfl, rfl⟩
      clear HCut hgs
      go_upto_block 2 with (fail)
      go_cut [6, 7, 8, 9] (fun s6 s7 s8 s9 wx => ∃ (put' came' bad' : Nat) (q' : List ByteArray) (A' : Option Addr) (c' : Nat), s6 = .slice A' q'.length c' ∧ s7 = .int .i64 put' ∧ s8 = .int .i64 came' ∧ s9 = .int .i64 bad' ∧ put' ≤ k + 1 ∧ came' ≤ k + 1 ∧ bad' ≤ k + 1 ∧ Hid (∀ s ∈ q', s.size ≤ 20) ∧ Hid (PlSt w wx gp m q' put' came' bad' A' c' q'))
      case first =>
        by_cases hkd : kd = 1
        · subst hkd
          as_aux_lemma =>
          obtain ⟨x, hx⟩ : ∃ x : Int, x = max (-40) (min ac 400) := ⟨_, rfl⟩
          have hx0 : -1000 ≤ x := by omega
          have hx1 : x ≤ 1000 := by omega
          have HX := Lib.hid hx
          clear hx
          go_wp2_with fail
          refine (near_any kc ac mc x _ HX.out).mono ?_
          rintro e w4 ⟨rfl, t4⟩
          have HSb := Lib.hid (HSa.out.old t4)
          have HSc := Lib.hid (HSb.out.old ((Touch.refl _ w4).alloc (.cells #[.int .i64 kc, .int .i64 x, .int .u32 mc] 58)))
          have HBc := Lib.hid (Blk.new w4 58 [.int .i64 kc, .int .i64 x, .int .u32 mc])
          obtain ⟨gr, b, hpl⟩ := HSc.out
          have hnf : Hid (¬ PFoot gp gr b w4.heap.size) := fun hf => by
            obtain ⟨gr2, b2, hpl2⟩ := HSb.out
            have e1 : gr2 = gr := by
              have := (hpl2.pipe.blk.alloc (.cells #[.int .i64 kc, .int .i64 x, .int .u32 mc] 58)).uniq hpl.pipe.blk
              simp at this
              exact this
            subst e1
            have := hpl.pipe.wf _ hf
            rcases hf with e | e | e
            · have := hpl2.pipe.blk.lt; omega
            · have := hpl2.pipe.ring.lt; omega
            · have e3 := (PipeAt.buniq (hpl2.pipe.touch ((Touch.refl _ w4).alloc (.cells #[.int .i64 kc, .int .i64 x, .int .u32 mc] 58)) (fun _ _ h => h)) hpl.pipe)
              rw [← e3] at e
              have := hpl2.pipe.ring.ltb _ e; omega
          have HPc := Lib.hid hpl
          clear hpl t4 HSa HSb HSc HBa a0 a1 a2 a3 a4
          go_upto_region 23 with (fail)
          generalize w4.alloc (.cells #[.int .i64 kc, .int .i64 x, .int .u32 mc] 58) = w5 at *
          generalize w4.heap.size = gc at *
          have c0 : w5.cell? ⟨gc, 0, none⟩ = some (.int .i64 kc) := HBc.out.cell 0
          have c1 : w5.cell? ⟨gc, 1, none⟩ = some (.int .i64 x) := HBc.out.cell 1
          have c2 : w5.cell? ⟨gc, 2, none⟩ = some (.int .u32 mc) := HBc.out.cell 2
          match q, HQ, HPc with
          | [], HQ, HPc =>
            go_wp2_with fail
            refine (pipe_take_none_at kc x mc HPc.out).mono ?_
            rintro e w6 ⟨rfl, h6, t6⟩
            have H6 := Lib.hid h6.st
            clear h6 t6 HPc HBc c0 c1 c2
            go_wp2
            go_roundw
            case rel => exact ⟨k + 1, put, came, bad, [], A6, c6, by omega, by omega, rfl, rfl, rfl, rfl, by go_num, by omega, by omega, by omega, HQ, H6⟩
            case measure => simp [intOf]; omega
          | s :: q, HQ, HPc =>
            have hss : s.size ≤ 20 := HQ.out s (by simp)
            have HQ2 : Hid (∀ s ∈ q, s.size ≤ 20) := fun z hz => HQ.out z (by simp [hz])
            obtain ⟨gw, ow, rfl, _, hcw⟩ := HPc.out.sl.str_at 0 (by simp)
            have hl1 : (s :: q).length = q.length + 1 := rfl
            have hlq : q.length + 1 ≤ c6 := HPc.out.sl.1
            have hcm6 := HPc.out.sl.2.1
            unfold maxLen at hcm6
            clear hcw HQ
            by_cases hk1 : kc = 1
            · subst hk1
              as_aux_lemma =>
              go_wp2_with fail
              refine (pipe_take_lose_at s x mc HPc.out (by omega)).mono ?_
              rintro e w6 ⟨rfl, h6, t6⟩
              have H6 := Lib.hid h6
              have B6 := Lib.hid (t6.blk HBc.out hnf.out)
              clear h6 t6 HPc HBc c0 c1 c2
              have hsw : w6.cell? ⟨gw, ow, none⟩ = some (.string s) := by
                obtain ⟨g2, o2, e, _, hh⟩ := H6.out.sl.str_at 0 (by simp)
                injection e with e
                injection e with e1 e2
                subst e1 e2
                exact hh
              have c0 : w6.cell? ⟨gc, 0, none⟩ = some (.int .i64 1) := B6.out.cell 0
              have c1 : w6.cell? ⟨gc, 1, none⟩ = some (.int .i64 x) := B6.out.cell 1
              have c2 : w6.cell? ⟨gc, 2, none⟩ = some (.int .u32 mc) := B6.out.cell 2
              have HT7 := Lib.hid (PlSt.tail (H6.out.st) (by simp))
              go_wp2
              · rename_i h
                go_meet
                case rel => exact ⟨put, came, (bad + 1), q, some ⟨gw, ow, none⟩, 0, rfl, rfl, by first | rfl | go_num, by first | rfl | go_num, by omega, by omega, by omega, HQ2, by have := HT7.out; rw [if_pos h, h] at this; exact this⟩
              · rename_i h
                go_meet
                case rel => exact ⟨put, came, (bad + 1), q, some ⟨gw, ow + 1, none⟩, c6 - 1, rfl, rfl, by first | rfl | go_num, by first | rfl | go_num, by omega, by omega, by omega, HQ2, by have := HT7.out; rw [if_neg h] at this; exact this⟩
            · by_cases hk2 : kc = 2
              · subst hk2
                by_cases hfl : flipS mc x s = s
                · as_aux_lemma =>
                  go_wp2_with fail
                  refine (pipe_take_spoil_at s x mc HPc.out (by omega) (by omega) (by omega) hx0 hx1 hgm0 hgm1).mono ?_
                  rintro e w6 ⟨rfl, h6, t6⟩
                  rw [if_pos hfl, if_pos hfl] at h6
                  rw [hfl]
                  have H6 := Lib.hid h6
                  have B6 := Lib.hid (t6.blk HBc.out hnf.out)
                  have HTu := Lib.hid (fun w => turn_s s x mc w (by omega) hx0 hx1 hgm0 hgm1)
                  rw [hfl] at HTu
                  clear h6 t6 HPc HBc c0 c1 c2 hk1
                  have hsw : w6.cell? ⟨gw, ow, none⟩ = some (.string s) := by
                    obtain ⟨g2, o2, e, _, hh⟩ := H6.out.sl.str_at 0 (by simp)
                    injection e with e
                    injection e with e1 e2
                    subst e1 e2
                    exact hh
                  have c0 : w6.cell? ⟨gc, 0, none⟩ = some (.int .i64 2) := B6.out.cell 0
                  have c1 : w6.cell? ⟨gc, 1, none⟩ = some (.int .i64 x) := B6.out.cell 1
                  have c2 : w6.cell? ⟨gc, 2, none⟩ = some (.int .u32 mc) := B6.out.cell 2
                  go_wp2_with fail
                  refine (HTu.out w6).mono ?_
                  rintro e w7 ⟨rfl, t7⟩
                  have H7 := Lib.hid (H6.out.old t7)
                  have B7 := Lib.hid (t7.blk B6.out (fun h => h))
                  clear t7 H6 B6 hsw c0 c1 c2
                  have hsw : w7.cell? ⟨gw, ow, none⟩ = some (.string s) := by
                    obtain ⟨g2, o2, e, _, hh⟩ := H7.out.sl.str_at 0 (by simp)
                    injection e with e
                    injection e with e1 e2
                    subst e1 e2
                    exact hh
                  have c0 : w7.cell? ⟨gc, 0, none⟩ = some (.int .i64 2) := B7.out.cell 0
                  have c1 : w7.cell? ⟨gc, 1, none⟩ = some (.int .i64 x) := B7.out.cell 1
                  have c2 : w7.cell? ⟨gc, 2, none⟩ = some (.int .u32 mc) := B7.out.cell 2
                  have HT7 := Lib.hid (PlSt.tail (H7.out.st) (by simp))
                  go_wp2
                  · rename_i h
                    go_meet
                    case rel => exact ⟨put, (came + 1), bad, q, some ⟨gw, ow, none⟩, 0, rfl, rfl, by first | rfl | go_num, by first | rfl | go_num, by omega, by omega, by omega, HQ2, by have := HT7.out; rw [if_pos h, h] at this; exact this⟩
                  · rename_i h
                    go_meet
                    case rel => exact ⟨put, (came + 1), bad, q, some ⟨gw, ow + 1, none⟩, c6 - 1, rfl, rfl, by first | rfl | go_num, by first | rfl | go_num, by omega, by omega, by omega, HQ2, by have := HT7.out; rw [if_neg h] at this; exact this⟩
                · as_aux_lemma =>
                  go_wp2_with fail
                  refine (pipe_take_spoil_at s x mc HPc.out (by omega) (by omega) (by omega) hx0 hx1 hgm0 hgm1).mono ?_
                  rintro e w6 ⟨rfl, h6, t6⟩
                  rw [if_neg hfl, if_neg hfl] at h6
                  have H6 := Lib.hid h6
                  have B6 := Lib.hid (t6.blk HBc.out hnf.out)
                  have HTu := Lib.hid (fun w => turn_s s x mc w (by omega) hx0 hx1 hgm0 hgm1)
                  have hne : ((flipS mc x s).toList == s.toList) = false := str_ne hfl
                  clear h6 t6 HPc HBc c0 c1 c2 hk1 hfl
                  have hsw : w6.cell? ⟨gw, ow, none⟩ = some (.string s) := by
                    obtain ⟨g2, o2, e, _, hh⟩ := H6.out.sl.str_at 0 (by simp)
                    injection e with e
                    injection e with e1 e2
                    subst e1 e2
                    exact hh
                  have c0 : w6.cell? ⟨gc, 0, none⟩ = some (.int .i64 2) := B6.out.cell 0
                  have c1 : w6.cell? ⟨gc, 1, none⟩ = some (.int .i64 x) := B6.out.cell 1
                  have c2 : w6.cell? ⟨gc, 2, none⟩ = some (.int .u32 mc) := B6.out.cell 2
                  go_wp2_with fail
                  refine (HTu.out w6).mono ?_
                  rintro e w7 ⟨rfl, t7⟩
                  have H7 := Lib.hid (H6.out.old t7)
                  have B7 := Lib.hid (t7.blk B6.out (fun h => h))
                  clear t7 H6 B6 hsw c0 c1 c2
                  generalize flipS mc x s = fs at *
                  have hsw : w7.cell? ⟨gw, ow, none⟩ = some (.string s) := by
                    obtain ⟨g2, o2, e, _, hh⟩ := H7.out.sl.str_at 0 (by simp)
                    injection e with e
                    injection e with e1 e2
                    subst e1 e2
                    exact hh
                  have c0 : w7.cell? ⟨gc, 0, none⟩ = some (.int .i64 2) := B7.out.cell 0
                  have c1 : w7.cell? ⟨gc, 1, none⟩ = some (.int .i64 x) := B7.out.cell 1
                  have c2 : w7.cell? ⟨gc, 2, none⟩ = some (.int .u32 mc) := B7.out.cell 2
                  have HT7 := Lib.hid (PlSt.tail (H7.out.st) (by simp))
                  go_wp2
                  · rename_i h
                    go_meet
                    case rel => exact ⟨put, came, (bad + 1), q, some ⟨gw, ow, none⟩, 0, rfl, rfl, by first | rfl | go_num, by first | rfl | go_num, by omega, by omega, by omega, HQ2, by have := HT7.out; rw [if_pos h, h] at this; exact this⟩
                  · rename_i h
                    go_meet
                    case rel => exact ⟨put, came, (bad + 1), q, some ⟨gw, ow + 1, none⟩, c6 - 1, rfl, rfl, by first | rfl | go_num, by first | rfl | go_num, by omega, by omega, by omega, HQ2, by have := HT7.out; rw [if_neg h] at this; exact this⟩
              · have e1 : (kc == 1) = false := beq_eq_false_iff_ne.2 hk1
                have e2 : (kc == 2) = false := beq_eq_false_iff_ne.2 hk2
                have e3 : (kc != 1) = true := by simp [hk1]
                as_aux_lemma =>
                go_wp2_with fail
                refine (pipe_take_carry_at s kc x mc HPc.out hk1 hk2 (by omega)).mono ?_
                rintro e w6 ⟨rfl, h6, t6⟩
                have H6 := Lib.hid h6
                have B6 := Lib.hid (t6.blk HBc.out hnf.out)
                clear h6 t6 HPc HBc c0 c1 c2 hk1 hk2
                have hsw : w6.cell? ⟨gw, ow, none⟩ = some (.string s) := by
                  obtain ⟨g2, o2, e, _, hh⟩ := H6.out.sl.str_at 0 (by simp)
                  injection e with e
                  injection e with e1 e2
                  subst e1 e2
                  exact hh
                have c0 : w6.cell? ⟨gc, 0, none⟩ = some (.int .i64 kc) := B6.out.cell 0
                have c1 : w6.cell? ⟨gc, 1, none⟩ = some (.int .i64 x) := B6.out.cell 1
                have c2 : w6.cell? ⟨gc, 2, none⟩ = some (.int .u32 mc) := B6.out.cell 2
                have HT7 := Lib.hid (PlSt.tail (H6.out.st) (by simp))
                go_wp2
                · rename_i h
                  go_meet
                  case rel => exact ⟨put, (came + 1), bad, q, some ⟨gw, ow, none⟩, 0, rfl, rfl, by first | rfl | go_num, by first | rfl | go_num, by omega, by omega, by omega, HQ2, by have := HT7.out; rw [if_pos h, h] at this; exact this⟩
                · rename_i h
                  go_meet
                  case rel => exact ⟨put, (came + 1), bad, q, some ⟨gw, ow + 1, none⟩, c6 - 1, rfl, rfl, by first | rfl | go_num, by first | rfl | go_num, by omega, by omega, by omega, HQ2, by have := HT7.out; rw [if_neg h] at this; exact this⟩
        · by_cases hkd2 : kd = 2
          · subst hkd2
            as_aux_lemma =>
            go_wp2_with fail
            refine (pipe_clone HSa.out).mono ?_
            rintro e w4 ⟨g', rfl, h4⟩
            have H4 := Lib.hid h4
            obtain ⟨grc, bc, hpc⟩ := h4
            have cc0 : w4.cell? ⟨g', 0, none⟩ = some (.pointer (some ⟨grc, 0, none⟩)) := hpc.pipe.blk.cell 0
            have HRc := Lib.hid hpc.pipe.ring
            clear hpc a0 a1 a2 a3 a4
            go_wp2_with fail
            refine (ringStr_len grc bc m q w4 HRc.out).mono ?_
            rintro e w5 ⟨rfl, rfl⟩
            go_wp2_with fail
            refine (pipe_put ⟨#[111, 116, 104, 101, 114]⟩ H4.out (by omega)).mono ?_
            rintro e w6 ⟨rfl, h6⟩
            generalize (if q.length < m then (0 : Int) else 7) = rp
            obtain ⟨s1, q1, hq1⟩ : ∃ s1 q1, (if q.length < m then q ++ [(⟨#[111, 116, 104, 101, 114]⟩ : ByteArray)] else q) = s1 :: q1 := by
              by_cases hlt : q.length < m
              · rw [if_pos hlt]
                cases q with
                | nil => exact ⟨_, _, rfl⟩
                | cons z q => exact ⟨_, _, rfl⟩
              · rw [if_neg hlt]
                cases q with
                | nil => exact absurd hlt (by simp; omega)
                | cons z q => exact ⟨_, _, rfl⟩
            rw [hq1] at h6
            have H6 := Lib.hid h6
            clear h6 hq1 HRc cc0 H4
            generalize (if q.length < m then put + 1 else put) = pu at *
            go_wp2_with fail
            refine (pipe_take_carry s1 0 0 0 H6.out (by decide) (by decide) (by omega)).mono ?_
            rintro e w7 ⟨rfl, h7⟩
            have H7 := Lib.hid (HSa.out.old h7.fresh)
            clear h7 H6
            go_wp2
            go_meet
            case rel => exact ⟨put, came, bad, q, A6, c6, rfl, rfl, rfl, rfl, by omega, by omega, by omega, HQ, H7⟩
          · have k1 : (kd == 1) = false := beq_eq_false_iff_ne.2 hkd
            have k2 : (kd == 2) = false := beq_eq_false_iff_ne.2 hkd2
            as_aux_lemma =>
            clear hkd hkd2
            go_wp2_with fail
            refine (pipe_put u HSa.out (by omega)).mono ?_
            rintro e w4 ⟨rfl, h4⟩
            by_cases hroom : q.length < m
            · rw [if_pos hroom, if_pos hroom] at h4
              rw [if_pos hroom]
              have HS4 := Lib.hid h4
              have hri : (q.length : Int) < (m : Int) := by omega
              have HQ2 : Hid (∀ z ∈ q ++ [u], z.size ≤ 20) := fun z hz => by
                rcases List.mem_append.1 hz with h | h
                · exact HQ.out z h
                · simp at h; rw [h]; exact hcs
              clear h4 a0 a1 a2 a3 a4 hroom HSa HBa
              go_wp2_with (first
                | (at_builtin; refine app_str rfl rfl (l := []) (l2 := q) rfl rfl (Sl.lit strE _ _ (by simp) #[] [] rfl 0 rfl (by decide)) ((HS4.out.sl.alloc _).rd) (by simp; omega) ?_; intro A5 c5 L5 w5 hL5 hs5 ht5 hA5)
                | (at_builtin; refine app_str rfl rfl (l := L5) (l2 := [u]) rfl rfl (hs5.alloc _) (Sl.rd (Sl.lit strE _ _ rfl _ _ rfl _ rfl (by decide))) (by have := hL5.out; subst this; simp; omega) ?_; intro A7 c7 L7 w7 hL7 hs7 ht7 hA7))
              have T5 : Fresh w4 w5 := ((Touch.refl _ w4).alloc (.cells #[] 9)).trans ht5 (fun k hk e => by simp at e; omega)
              have hA5w : ∀ ad, A5 = some ad → w4.heap.size ≤ ad.block := fun ad e => by
                subst e
                rcases hA5 with e | e <;> (simp at e; omega)
              have T7 : Fresh w4 w7 := (T5.alloc (.cells #[.string u] 9)).trans ht7 (fun k hk e => by
                cases A5 with
                | none => cases e
                | some ad => have := hA5w ad rfl; simp at e; omega)
              have hA7w : ∀ ad, A7 = some ad → w4.heap.size ≤ ad.block := fun ad e => by
                subst e
                rcases hA7 with e | e
                · cases A5 with
                  | none => cases e
                  | some ad0 => have := hA5w ad0 rfl; simp at e; omega
                · have := T5.size; simp at e; omega
              have hL : L7 = q ++ [u] := by rw [hL7.out, hL5.out]; rfl
              subst hL
              have HS7 := Lib.hid (HS4.out.slTo (T7.mono (fun _ _ h => absurd h (fun h => h))) hs7 (fun ad e => .inr (hA7w ad e)))
              clear T5 hA5w T7 hA7w hs5 hs7 ht5 ht7 hA5 hA7 hL5 hL7 HS4
              go_meet
              case rel => exact ⟨put + 1, came, bad, q ++ [u], A7, c7, rfl, by first | rfl | go_num, rfl, rfl, by omega, by omega, by omega, HQ2, HS7⟩
            · rw [if_neg hroom, if_neg hroom] at h4
              rw [if_neg hroom]
              have HS4 := Lib.hid h4
              have hri : ¬ ((q.length : Int) < (m : Int)) := by omega
              clear h4
              go_wp2
              go_meet
              case rel => exact ⟨put, came, bad, q, A6, c6, rfl, rfl, rfl, rfl, by omega, by omega, by omega, HQ, HS4⟩
      case rest =>
        as_aux_lemma =>
        obtain ⟨put', came', bad', q', A', c', rfl, rfl, rfl, rfl, hp', hc', hb', HQ', HS'⟩ := hcut
        clear HSa HQ hqm HBa a0 a1 a2 a3 a4
        have hqm := HS'.out.len_le
        obtain ⟨gr, b, hpl⟩ := HS'.out
        have c0 : wc.cell? ⟨gp, 0, none⟩ = some (.pointer (some ⟨gr, 0, none⟩)) := hpl.pipe.blk.cell 0
        have HRg := Lib.hid hpl.pipe.ring
        have HPl := Lib.hid hpl
        clear hpl HS'
        go_wp2_with fail
        refine (ringStr_allh gr b m q' wc HRg.out).mono ?_
        rintro e w5 ⟨A8, c8, rfl, s8, t8⟩
        have HP5 := Lib.hid (HPl.out.old t8)
        have HS8 := Lib.hid s8
        have h8c := s8.1
        have h8m := s8.2.1
        unfold maxLen at h8m
        clear s8 t8 HPl HRg c0
        go_wp2_with fail
        refine (pipe_counts HP5.out.st).mono ?_
        rintro e w6 ⟨rfl, n6, rfl⟩
        have HP6 := Lib.hid (HP5.out.old ((Touch.refl _ w5).drewN n6))
        have HS6 : Hid (Sl strE (w5.drewN n6) A8 c8 q') := HS8.out
        generalize w5.drewN n6 = w6 at *
        have c0 : w6.cell? ⟨gp, 0, none⟩ = some (.pointer (some ⟨gr, 0, none⟩)) := HP6.out.pipe.blk.cell 0
        clear HP5 HS8
        go_wp2_with fail
        refine (ringStr_len gr b m q' w6 HP6.out.pipe.ring).mono ?_
        rintro e w7 ⟨rfl, rfl⟩
        go_wp2_with fail
        refine (ringStr_room gr b m q' w7 HP6.out.pipe.ring).mono ?_
        rintro e w8 ⟨rfl, n7, rfl⟩
        have HP7 := Lib.hid (HP6.out.old ((Touch.refl _ w7).drewN n7))
        have HS7 : Hid (Sl strE (w7.drewN n7) A8 c8 q') := HS6.out
        generalize w7.drewN n7 = w9 at *
        clear HP6 HS6 c0
        go_wp2_with fail
        go_loopw [223] (fun i wr => ∃ j : Nat, j ≤ q'.length ∧ i = .int .i64 j ∧ Hid (PlAt w wr gp gr b m q' put' came' bad' A' c' q') ∧ Hid (Sl strE wr A8 c8 q')) (fun i _ => q'.length - (intOf i).toNat)
        case atStart => exact ⟨0, by omega, rfl, HP7, HS7⟩
        case round =>
          clear HP7 HS7
          obtain ⟨j, hj, rfl, HP, HS⟩ := hrel
          by_cases hjl : j < q'.length
          · have hji : (j : Int) < (q'.length : Int) := by omega
            have hj0 : (0 : Int) ≤ (j : Int) := by omega
            obtain ⟨g1, o1, rfl, _, hx1⟩ := HS.out.str_at j hjl
            obtain ⟨g2, o2, rfl, _, hx2⟩ := HP.out.sl.str_at j hjl
            generalize q'.getD j ByteArray.empty = z at *
            go_wp2
            go_quiet (fail)
            go_wp2
            go_roundw
            case rel => exact ⟨j + 1, by omega, by go_num, HP.out.old ((Touch.refl _ wr).drewN _), HS.out⟩
            case measure => simp [intOf]; omega
          · have hji : ¬ (j : Int) < (q'.length : Int) := by omega
            go_wp2
            go_roundw
            case rel => exact ⟨k + 1, put', came', bad', q', A', c', by omega, by omega, rfl, rfl, rfl, rfl, by go_num, by omega, by omega, by omega, HQ', HP.out.st⟩
            case measure => simp [intOf]; omega
    · rcases hend with hk1 | ⟨hk1, hk2⟩
      all_goals
        go_wp2
        go_ret
        exact ⟨rfl, HS.out.fresh.below (Nat.le_refl _) (fun _ _ h => h)⟩

theorem pipePlays.walk (a0 : Int) (v : Value) (w : World) (_h0 : (Lit.int .i64 a0).wf = true) {H : Type} {enc : TypeId × Value → H} {base : Nat} {d : DataW H} {p : List MemPlace} (hv : Value.okWide Try.prog w .any base 71 v) (h : DataW.Trod enc Try.prog w 0 (fun _ => true) true 71 v d p) :
    Calls Try.prog 10 #[.int .i64 a0, v] w fun e w' => e = .returned (.bool true) ∧ Below w.heap.size w w' := by
  obtain ⟨A, c, l, rfl, hr, hg⟩ := open_rd act17E Try.underlying71 (by kernel_rfl) (Good := GoodAct) dec_act17 hv h
  refine pipePlays.core a0 _ (max 1 (min a0 256)).toNat rfl ?_ rfl (by omega) A c l w hr hg
  split <;> split <;> omega
end Go.Proofs.Ytfieckhhckfjiaa

/-
  RecvNames: what is named didn't come; when it comes, all has come.
-/
import Derived.Test.YtpjmgdoekeknjaaPl12
import Derived.Deep.RegionLaw
namespace Go.Proofs.Ytpjmgdoekeknjaa
open Go.RowKit Go.ChangeShapes Go.WideShapes Go.ChangeAt

section
variable {B w : World} {p : Nat} {F : Nat → Prop} {x : Rf.S} {lo hi : Int}
theorem ostatRf (h : OwnRecv B w p F (Rf.prog x)) (ok : Rf.Ok x lo hi) :
    Calls Try.prog 22 #[.pointer (some ⟨p, 0, none⟩)] w fun e w' => ∃ B' d l, e = .returned (.tuple #[.slice B' l.length d, .int .u32 (x.R % 16777216), .int .u32 ((Rf.renew x).MR % 16777216)]) ∧ OwnRecv B w' p F (Rf.prog (Rf.renew x)) ∧ Touch F w w' ∧ Sl numE w' B' d l ∧
      (∀ ad, B' = some ad → w.heap.size ≤ ad.block) ∧ Gp.nm 65536 l (l.length / 2) = (Rf.missing x).map (· % 16777216) ∧ l.length ≤ 200000 ∧ (x.R = x.H → l = []) := by
  have b5 := ok.hm
  have b6 := ok.sum
  have b7 := ok.win
  have b8 := ok.rh
  refine (ostatR h (by rw [ok.dist]; omega) (by show 0 ≤ x.window ∧ x.window ≤ 64; omega) (by show x.inbox.length ≤ 1000000; have := ok.ilen; omega) ok.renew.1).mono ?_
  rintro e w' ⟨B', d, S, rfl, r1, r2, r3, r4, r5⟩
  refine ⟨B', d, _, rfl, r1, r2, r3, r4, ok.named r5, ?_, fun hR => ?_⟩
  · rw [Gp.gl_len]
    have := r5.len (by rw [ok.dist]; omega)
    omega
  · rw [ok.none_missing hR r5]
    rfl
theorem odataRf (h : OwnRecv B w p F (Rf.prog x)) (ok : Rf.Ok x lo hi) (hh : hi + 64 - lo ≤ 8000000) (n : Int) (v : ByteArray) :
    Calls Try.prog 13 #[.pointer (some ⟨p, 0, none⟩), .int .u32 (n % 16777216), .string v] w fun e w' => ∃ F2 A' c', e = .returned (.slice A' (Rf.data x n v).2.length c') ∧ Sl strE w' A' c' (Rf.data x n v).2 ∧ OwnRecv B w' p F2 (Rf.prog (Rf.data x n v).1) ∧ Touch F w w' ∧ (∀ k, F2 k → F k ∨ w.heap.size ≤ k) ∧
      ∀ ad, A' = some ad → w.heap.size ≤ ad.block ∧ ¬ F2 ad.block := by
  have hil := ok.ilen
  have hbl := ok.blen
  have hgl := ok.glen
  exact odataR (n % 16777216) v h (by show x.inbox.length + (Rf.pm x.buf).length + (Rf.pg x.gaps).length ≤ 100000; simp [Rf.pm, Rf.pg]; omega) (ok.data n v hh).1
theorem ovarsRf (h : OwnRecv B w p F (Rf.prog x)) : Calls Try.prog 16 #[.pointer (some ⟨p, 0, none⟩)] w fun e w' => e = .returned (.agg #[.int .u32 (x.R % 16777216), .int .u32 (x.H % 16777216), .int .u32 (x.MR % 16777216), .int .i64 (x.buf.length : Int), .int .i64 (x.inbox.length : Int), .int .i64 (x.gaps.length : Int)]) ∧ Fresh w w' := by
  refine (rvars_any p F _ w h.at_).mono ?_
  rintro e w' ⟨rfl, f⟩
  refine ⟨?_, f⟩
  unfold Rv.varsV Rf.prog Rf.pm Rf.pg
  simp
end

set_option maxHeartbeats 8000000 in
set_option maxRecDepth 4000 in
theorem recvNames.core (start : Int) (A0 : Option Addr) (c0' : Nat) (l : List Act12) (w : World) (h : Rd act12E w A0 c0' l) (hl : ∀ a ∈ l, a.m.size ≤ maxLen) :
    Calls Try.prog 9 #[.int .i64 start, .slice A0 l.length c0'] w fun e w' => e = .returned (.bool true) ∧ Below w.heap.size w w' := by
  have hlc := h.1
  have hcm := h.2.1
  unfold maxLen at hcm
  have HR := Lib.hid h
  have HS := Lib.hid hl
  clear h hl
  have HNW : Hid (∀ W, Fresh w W → Calls Try.prog 11 #[.int .u32 (start % 16777216), .int .i64 30] W fun e w' => ∃ p F, e = .returned (.pointer (some ⟨p, 0, none⟩)) ∧ OwnRecv w w' p F (Rf.prog (Rf.new start 30)) ∧ Fresh W w' ∧ ∀ x, F x → W.heap.size ≤ x) := fun W hf => onewR (start % 16777216) 30 hf (Rv.new_mod start 30)
  have HRN : Hid (∀ W, Calls Try.prog 23 #[.int .i64 start, .int .i64 30] W fun e w' => e = .returned (.agg #[.int .i64 (Rf.new start 30).R, .int .i64 (Rf.new start 30).H, .int .i64 (Rf.new start 30).MR, .int .i64 (Rf.new start 30).window, .slice none (Rf.new start 30).buf.length 0, .slice none (Rf.new start 30).inbox.length 0, .slice none (Rf.new start 30).gaps.length 0]) ∧ Fresh W w') := fun W => rfnew_any start 30 W
  have HSO := Lib.hid (sof_any start)
  obtain ⟨x0, hx0⟩ : ∃ x0, x0 = Rf.new start 30 := ⟨_, rfl⟩
  have hlo : 0 ≤ start % 16777216 ∧ start % 16777216 < 16777216 := by omega
  have HPN : Hid (∀ (W : World) (p b : Nat) (F : Nat → Prop), OwnRecv w W p F (Rf.prog x0) → Blk W b 52 (rfCells x0 none 0 none 0 none 0) → ¬ F b → w.heap.size ≤ b → PlSt w W p b F (fun _ => False) none 0 none 0 none 0 [] x0 (start % 16777216) (start % 16777216)) := by
    intro W p b F h1 h2 h3 h4
    rw [hx0] at h1 h2 ⊢
    exact PlSt.new h1 h2 h3 h4
  rw [← hx0] at HNW HRN
  clear hx0
  generalize start % 16777216 = s0 at *
  go_enter Try.func9, Try.ntmps9
  go_wp2_with fail
  refine (awake12 w).mono ?_
  rintro e w1 ⟨rfl, f1⟩
  have F1 := Lib.hid f1
  clear f1
  simp only
  go_wp2_with fail
  refine (HSO.out w1).mono ?_
  rintro e w2 ⟨rfl, rfl⟩
  simp only
  go_wp2_with fail
  refine (HNW.out w2 F1.out).mono ?_
  rintro e w3 ⟨p, F, rfl, o3, f3, b3⟩
  have O3 := Lib.hid o3
  have F3 := Lib.hid (F1.out.trans f3 (fun _ _ h => h))
  clear o3 f3 b3 HNW
  simp only
  go_wp2_with fail
  refine (HRN.out w3).mono ?_
  rintro e w4 ⟨rfl, f4⟩
  have O4 := Lib.hid (O3.out.old f4)
  clear f4 O3 HRN
  simp only
  have hb := Blk.new w4 52 (rfCells x0 none 0 none 0 none 0)
  have PL := Lib.hid (HPN.out (w4.alloc (.cells (rfCells x0 none 0 none 0 none 0).toArray 52)) p w4.heap.size F (O4.out.old ((Touch.refl _ _).alloc _)) hb (fun hf => Nat.lt_irrefl _ (O4.out.at_.lim _ hf)) O4.out.fresh.size)
  clear hb O4 HPN F3 F1
  obtain ⟨b, hb⟩ : ∃ b, b = w4.heap.size := ⟨_, rfl⟩
  go_upto_block 0 with (fail)
  rw [← hb] at PL ⊢
  clear hb
  go_cut [] (fun wx => ∃ (F D : Nat → Prop) (A : Option Addr) (c : Nat) (I : Option Addr) (ci : Nat) (G : Option Addr) (cg : Nat) (L : List (Option Nat)) (x : Rf.S), Hid (PlSt w wx p b F D A c I ci G cg L x s0 (s0 + 64 * 60)))
  case first =>
    go_wp2_with fail
    go_loopw [7] (fun i wr => ∃ (k : Nat) (F D : Nat → Prop) (A : Option Addr) (c : Nat) (I : Option Addr) (ci : Nat) (G : Option Addr) (cg : Nat) (L : List (Option Nat)) (x : Rf.S) (hi : Int), k ≤ l.length ∧ k ≤ 60 ∧ i = .int .i64 k ∧ Hid (PlSt w wr p b F D A c I ci G cg L x s0 hi) ∧ hi = s0 + 64 * (k : Int)) (fun i _ => l.length - (intOf i).toNat)
    case atStart => exact ⟨0, F, _, _, _, _, _, _, _, _, _, s0, by omega, by omega, rfl, PL, by omega⟩
    case round =>
      clear PL
      obtain ⟨k, F, D, A, c, I, ci, G, cg, L, x, hi, hk, hk60, rfl, HP, hhi⟩ := hrel
      have hcont : (k < l.length ∧ k < 60) ∨ ¬ (k < l.length ∧ k < 60) := Decidable.em _
      rcases hcont with ⟨hk1, hk2⟩ | hstop
      · have hk1' : (k : Int) < (l.length : Int) := by omega
        have hdk1 : decide ((k : Int) < (l.length : Int)) = true := decide_eq_true hk1'
        have hk2' : (k : Int) < 60 := by omega
        have hdk2 : decide ((k : Int) < 60) = true := decide_eq_true hk2'
        have hk0 : (0 : Int) ≤ (k : Int) := by omega
        obtain ⟨ga, oa, rfl, _, e0, e1, e2, e3⟩ := (HR.out.touch HP.out.fresh (fun _ _ _ h => h)).act12_at k hk1
        have ham : (l.getD k ⟨0, 0, false, ByteArray.empty⟩).m.size ≤ maxLen := by
          have e : l.getD k ⟨0, 0, false, ByteArray.empty⟩ = l[k] := by simp [List.getD, List.getElem?_eq_getElem hk1]
          rw [e]
          exact HS.out _ (List.getElem_mem _)
        generalize l.getD k ⟨0, 0, false, ByteArray.empty⟩ = a at *
        obtain ⟨d0, d1, d2, d3, d4, d5, d6⟩ := HP.out.cells
        have HST := Lib.hid (fun W (hf : Fresh wr W) => plstep (HP.out.old hf) a (by omega) ham)
        unfold act12V at HST
        have g1 : Fresh wr wr.drew := (Touch.refl _ _).drew
        go_upto_region 9 with (fail)
        go_region_law (go_simp; go_at_call 24; refine (HST.out _ (by assumption)).mono ?_; rintro e' w6 ⟨F6, D6, A6, c6, I6, ci6, G6, cg6, L6, rfl, ⟨fz, y0, y1, y2, y3, y4, y5, y6⟩, hp6⟩; have HP6 := Lib.hid hp6; clear hp6)
        all_goals
          clear y0 y1 y2 y3 y4 y5 y6 fz HST g1 e0 e1 e2 e3 d0 d1 d2 d3 d4 d5 d6 HP
          generalize Rf.step x a = y at *
          generalize (((((((w6.setCell ⟨b, 0, none⟩ (.int .i64 y.R)).setCell ⟨b, 1, none⟩ (.int .i64 y.H)).setCell ⟨b, 2, none⟩ (.int .i64 y.MR)).setCell ⟨b, 3, none⟩ (.int .i64 y.window)).setCell ⟨b, 4, none⟩ (.slice A6 y.buf.length c6)).setCell ⟨b, 5, none⟩ (.slice I6 y.inbox.length ci6)).setCell ⟨b, 6, none⟩ (.slice G6 y.gaps.length cg6)) = w7 at *
          go_wp2
          go_roundw
          case rel => exact ⟨k + 1, F6, D6, A6, c6, I6, ci6, G6, cg6, L6, y, hi + 64, by omega, by omega, by go_num, HP6, by omega⟩
          case measure => simp [intOf]; omega
      · have HPE : Hid (PlSt w wr p b F D A c I ci G cg L x s0 (s0 + 64 * 60)) := ⟨⟨HP.out.st.recv, HP.out.st.ins, HP.out.st.dom, HP.out.st.lim, HP.out.st.off, HP.out.st.ok.mono (by omega) (by omega)⟩, HP.out.box, HP.out.nf, HP.out.fresh, HP.out.base⟩
        by_cases h1 : k < l.length
        · have hk1' : (k : Int) < (l.length : Int) := by omega
          have hdk1 : decide ((k : Int) < (l.length : Int)) = true := decide_eq_true hk1'
          have hk2' : ¬ (k : Int) < 60 := by omega
          have hdk2 : decide ((k : Int) < 60) = false := decide_eq_false hk2'
          clear HP
          go_wp2
          go_meet
          case rel => exact ⟨F, D, A, c, I, ci, G, cg, L, x, HPE⟩
        · have hk1' : ¬ (k : Int) < (l.length : Int) := by omega
          have hdk1 : decide ((k : Int) < (l.length : Int)) = false := decide_eq_false hk1'
          clear HP
          go_wp2
          go_meet
          case rel => exact ⟨F, D, A, c, I, ci, G, cg, L, x, HPE⟩
  case rest =>
  obtain ⟨F, D, A, c, I, ci, G, cg, L, x, HP⟩ := hcut
  have OWN := Lib.hid HP.out.own
  have OK := Lib.hid HP.out.st.ok
  have hR0 := OK.out.lo0
  clear HP PL HR HS
  go_wp2_with fail
  refine (ostatRf OWN.out OK.out).mono ?_
  rintro e w5 ⟨B5, d5, l5, rfl, o5, t5, s5, sb5, hnm, hll, _⟩
  have hlim : ∀ k, F k → k < wc.heap.size := OWN.out.at_.lim
  have SB5 : Hid (∀ ad, B5 = some ad → ¬ F ad.block) := fun ad e hf => by have := sb5 ad e; have := hlim _ hf; omega
  obtain ⟨x1, hx1⟩ : ∃ x1, x1 = Rf.renew x := ⟨_, rfl⟩
  have OK1 : Hid (Rf.Ok x1 s0 (s0 + 64 * 60)) := hx1 ▸ OK.out.renew.2
  have hR1 : x1.R = x.R := by rw [hx1]; rfl
  have hms : Rf.missing x = Rf.missing x1 := by rw [hx1]; rfl
  rw [← hx1] at o5 ⊢
  rw [hms] at hnm
  rw [← hR1]
  have O5 := Lib.hid o5
  have S5 := Lib.hid s5
  have HNM := Lib.hid hnm
  clear hx1 hR1 hms hlim sb5 s5 o5 t5 hnm OWN OK
  simp only
  go_wp2_with fail
  refine (ovarsRf O5.out).mono ?_
  rintro e w6 ⟨rfl, f6⟩
  have O6 := Lib.hid (O5.out.old f6)
  have S6 := Lib.hid (S5.out.touch f6 (fun _ _ h => h))
  clear f6 O5 S5
  simp only
  go_upto_region 12 with (fail)
  have VB := Lib.hid (Blk.new w6 36 [.int .u32 (x1.R % 16777216), .int .u32 (x1.H % 16777216), .int .u32 (x1.MR % 16777216), .int .i64 (x1.buf.length : Int), .int .i64 (x1.inbox.length : Int), .int .i64 (x1.gaps.length : Int)])
  have O7 := Lib.hid (O6.out.old ((Touch.refl (fun _ => False) w6).alloc (.cells #[.int .u32 (x1.R % 16777216), .int .u32 (x1.H % 16777216), .int .u32 (x1.MR % 16777216), .int .i64 (x1.buf.length : Int), .int .i64 (x1.inbox.length : Int), .int .i64 (x1.gaps.length : Int)] 36)))
  have S7 := Lib.hid (S6.out.alloc (.cells #[.int .u32 (x1.R % 16777216), .int .u32 (x1.H % 16777216), .int .u32 (x1.MR % 16777216), .int .i64 (x1.buf.length : Int), .int .i64 (x1.inbox.length : Int), .int .i64 (x1.gaps.length : Int)] 36))
  have hbv : Hid (¬ F w6.heap.size) := fun hf => Nat.lt_irrefl _ (O6.out.at_.lim _ hf)
  clear O6 S6
  generalize hw7 : World.alloc w6 _ = w7
  have VB' : Hid (Blk w7 w6.heap.size 36 [.int .u32 (x1.R % 16777216), .int .u32 (x1.H % 16777216), .int .u32 (x1.MR % 16777216), .int .i64 (x1.buf.length : Int), .int .i64 (x1.inbox.length : Int), .int .i64 (x1.gaps.length : Int)]) := hw7 ▸ VB.out
  rw [hw7] at O7 S7
  clear VB hw7
  obtain ⟨bv, hb⟩ : ∃ bv, bv = w6.heap.size := ⟨_, rfl⟩
  rw [← hb] at VB' hbv ⊢
  clear hb
  have v0 : w7.cell? ⟨bv, 0, none⟩ = _ := VB'.out.cell 0
  simp only [List.getElem?_cons_succ, List.getElem?_cons_zero] at v0
  obtain ⟨ms, hms⟩ : ∃ ms, ms = Rf.missing x1 := ⟨_, rfl⟩
  have HLT0 : Hid (Rf.Late x1 x1 (ms.drop 0) s0 (s0 + 64 * 60)) := by rw [hms]; exact Rf.Late.begin OK1.out
  have HRI : Hid (Sp.Rising ms) := by rw [hms]; exact Rf.missing_rising x1
  have HIN : Hid (∀ n ∈ ms, x1.R ≤ n ∧ n < x1.H) := fun n hn => by
    rw [hms] at hn
    have := (Rf.mem_missing x1 n).1 hn
    exact ⟨this.1, this.2.1⟩
  have hml : ms.length ≤ 64 := by
    have h1 : (Rf.missing x1).length ≤ (x1.H - x1.R).toNat := Rf.missK_len x1 _
    have k1 := OK1.out.hm
    have k2 := OK1.out.sum
    have k3 := OK1.out.win
    rw [hms]
    omega
  rw [← hms] at HNM
  clear hms
  have HNA := Lib.hid (named_any 11 0 0 0 0 B5 d5 l5 false ByteArray.empty w7 S7.out.rd (by omega) (Or.inl rfl))
  rw [HNM.out] at HNA
  have HK : Hid ((ms.map (· % 16777216)).length = ms.length ∧ ∀ i (hi : i < ms.length), (ms.map (· % 16777216)).getD i 0 = ms[i] % 16777216) := ⟨by simp, fun i hi => by simp [List.getD, List.getElem?_eq_getElem hi]⟩
  generalize ms.map (· % 16777216) = K at *
  unfold pduV at HNA
  clear HNM S7 SB5
  go_wp2_with fail
  refine HNA.out.mono ?_
  rintro e w8 ⟨C, cd, rfl, m8⟩
  have hmc := m8.sl.1
  have hmm := m8.sl.2.1
  unfold maxLen at hmm
  have O8 := Lib.hid (O7.out.old m8.fresh)
  have VB8 := Lib.hid (m8.fresh.blk VB'.out (fun h => h))
  have hlim8 := O7.out.at_.lim
  have S8 : Hid (Sl numE w8 C cd K ∧ ∀ ad, C = some ad → ¬ F ad.block) := ⟨m8.sl, fun ad e hf => by have := m8.base ad e; have := hlim8 _ hf; omega⟩
  have VV8 : Hid (¬ F bv ∧ Blk w8 bv 36 [.int .u32 (x1.R % 16777216), .int .u32 (x1.H % 16777216), .int .u32 (x1.MR % 16777216), .int .i64 (x1.buf.length : Int), .int .i64 (x1.inbox.length : Int), .int .i64 (x1.gaps.length : Int)]) := ⟨hbv.out, VB8.out⟩
  clear hlim8 m8 O7 VB' VB8 hbv HNA v0
  have hKm : K.length = ms.length := HK.out.1
  rw [hKm] at hmc ⊢
  clear hKm
  simp only
  go_wp2_with fail
  go_loopw [63] (fun i wx => ∃ (j : Nat) (z : Rf.S) (F : Nat → Prop), j ≤ ms.length ∧ i = .int .i64 j ∧ Hid (OwnRecv w wx p F (Rf.prog z)) ∧ Hid (Rf.Late x1 z (ms.drop j) s0 (s0 + 64 * 60 + 64 * (j : Int))) ∧ Hid (¬ F bv ∧ Blk wx bv 36 [.int .u32 (x1.R % 16777216), .int .u32 (x1.H % 16777216), .int .u32 (x1.MR % 16777216), .int .i64 (x1.buf.length : Int), .int .i64 (x1.inbox.length : Int), .int .i64 (x1.gaps.length : Int)]) ∧ Hid (Sl numE wx C cd K ∧ ∀ ad, C = some ad → ¬ F ad.block)) (fun i _ => ms.length - (intOf i).toNat)
  case atStart => exact ⟨0, x1, F, by omega, rfl, O8, by simpa using HLT0, VV8, S8⟩
  case round =>
    clear O8 HLT0 VV8 S8
    obtain ⟨j, z, F2, hj, rfl, OZ, HL, VV, SK⟩ := hrel
    have v0 : wr.cell? ⟨bv, 0, none⟩ = _ := VV.out.2.cell 0
    have v1 : wr.cell? ⟨bv, 1, none⟩ = _ := VV.out.2.cell 1
    simp only [List.getElem?_cons_succ, List.getElem?_cons_zero] at v0 v1
    by_cases hlt : j < ms.length
    · obtain ⟨gc, oc, rfl, hgc, kc⟩ := SK.out.1.num_at j (by rw [HK.out.1]; exact hlt)
      rw [HK.out.2 j hlt] at kc
      have hjl : (j : Int) < (ms.length : Int) := by omega
      have hj0 : (0 : Int) ≤ (j : Int) := by omega
      have HD : Hid (ms.drop j = ms[j] :: ms.drop (j + 1)) := List.drop_eq_getElem_cons hlt
      have HRJ : Hid (Sp.Rising (ms[j] :: ms.drop (j + 1))) := by
        rw [← HD.out]
        exact List.Pairwise.sublist (List.drop_sublist _ _) HRI.out
      obtain ⟨n1, n2⟩ := HIN.out ms[j] (List.getElem_mem hlt)
      rw [HD.out] at HL
      generalize ms[j] = n at *
      have k1 := OK1.out.hm
      have k2 := OK1.out.sum
      have k3 := OK1.out.win
      have HBT := Lib.hid (btw_any (x1.R % 16777216) (n % 16777216) (x1.H % 16777216))
      have hbt : decide ((n % 16777216 - x1.R % 16777216) % 16777216 < (x1.H % 16777216 - x1.R % 16777216) % 16777216) = true := decide_eq_true (by omega)
      rw [hbt] at HBT
      clear hbt k1 k2 k3
      have HDA := Lib.hid (odataRf OZ.out HL.out.ok (by omega) n { data := #[108, 97, 116, 101] })
      have HL2 : Hid (Rf.Late x1 (Rf.data z n { data := #[108, 97, 116, 101] }).1 (ms.drop (j + 1)) s0 (s0 + 64 * 60 + 64 * (j : Int) + 64)) := HL.out.next HRJ.out _ (by omega)
      generalize Rf.data z n { data := #[108, 97, 116, 101] } = dz at *
      have n16 : 0 ≤ n % 16777216 ∧ n % 16777216 < 16777216 := by omega
      generalize n % 16777216 = n' at *
      generalize x1.R % 16777216 = r1 at *
      generalize x1.H % 16777216 = h1 at *
      go_wp2_with fail
      refine (HBT.out wr).mono ?_
      rintro e w9 ⟨rfl, rfl⟩
      simp only
      go_wp2_with fail
      refine HDA.out.mono ?_
      rintro e w10 ⟨F3, A3, c3, rfl, s3, o3, t3, g3, _⟩
      have O10 := Lib.hid o3
      have hlb := VV.out.2.lt
      have VV10 : Hid (¬ F3 bv ∧ Blk w10 bv 36 _) := ⟨fun hf => by
        rcases g3 _ hf with e | e
        · exact VV.out.1 e
        · omega, t3.blk VV.out.2 VV.out.1⟩
      have SK10 : Hid (Sl numE w10 (some ⟨gc, oc, none⟩) cd K ∧ ∀ ad, some (⟨gc, oc, none⟩ : Addr) = some ad → ¬ F3 ad.block) := ⟨SK.out.1.touch t3 SK.out.2, fun ad e hf => by
        rcases g3 _ hf with e2 | e2
        · exact SK.out.2 ad e e2
        · injection e with e
          subst e
          simp only at e2
          omega⟩
      clear o3 t3 g3 s3 VV SK OZ HL HDA HRJ HD v0 v1 kc
      simp only
      go_wp2
      go_roundw
      case rel => exact ⟨j + 1, dz.1, F3, by omega, by go_num, O10, by rw [show s0 + 64 * 60 + 64 * ((j + 1 : Nat) : Int) = s0 + 64 * 60 + 64 * (j : Int) + 64 by omega]; exact HL2, VV10, SK10⟩
      case measure => simp [intOf]; omega
    · obtain rfl : j = ms.length := by omega
      rw [List.drop_length] at HL
      obtain ⟨q1, q2, q3⟩ := HL.out.done
      have OKZ := Lib.hid HL.out.ok
      have hzb : z.buf.length = 0 := by rw [q3]; rfl
      have HVZ := Lib.hid (ovarsRf OZ.out)
      rw [q1, q2, hzb] at HVZ
      have hjl : ¬ ((ms.length : Int) < (ms.length : Int)) := by omega
      have HQ : Hid (z.R = z.H) := q1.trans q2.symm
      clear hzb q1 q2 q3 HL v0 v1 HSO
      go_wp2_with fail
      refine HVZ.out.mono ?_
      rintro e w11 ⟨rfl, f11⟩
      have O11 := Lib.hid (OZ.out.old f11)
      have VV11 : Hid (¬ F2 bv ∧ Blk w11 bv 36 [.int .u32 (x1.R % 16777216), .int .u32 (x1.H % 16777216), .int .u32 (x1.MR % 16777216), .int .i64 (x1.buf.length : Int), .int .i64 (x1.inbox.length : Int), .int .i64 (x1.gaps.length : Int)]) := ⟨VV.out.1, f11.blk VV.out.2 (fun h => h)⟩
      clear f11 OZ VV SK HVZ
      simp only
      go_upto_region 22 with (fail)
      have VB := Lib.hid (Blk.new w11 36 [.int .u32 (x1.H % 16777216), .int .u32 (x1.H % 16777216), .int .u32 (z.MR % 16777216), .int .i64 0, .int .i64 (z.inbox.length : Int), .int .i64 (z.gaps.length : Int)])
      have O12 := Lib.hid (O11.out.old ((Touch.refl (fun _ => False) w11).alloc (.cells #[.int .u32 (x1.H % 16777216), .int .u32 (x1.H % 16777216), .int .u32 (z.MR % 16777216), .int .i64 0, .int .i64 (z.inbox.length : Int), .int .i64 (z.gaps.length : Int)] 36)))
      have VA := Lib.hid (VV11.out.2.alloc (.cells #[.int .u32 (x1.H % 16777216), .int .u32 (x1.H % 16777216), .int .u32 (z.MR % 16777216), .int .i64 0, .int .i64 (z.inbox.length : Int), .int .i64 (z.gaps.length : Int)] 36))
      have hbz : Hid (¬ F2 w11.heap.size) := fun hf => Nat.lt_irrefl _ (O11.out.at_.lim _ hf)
      clear O11
      generalize hw12 : World.alloc w11 _ = w12
      have VB' : Hid (Blk w12 w11.heap.size 36 [.int .u32 (x1.H % 16777216), .int .u32 (x1.H % 16777216), .int .u32 (z.MR % 16777216), .int .i64 0, .int .i64 (z.inbox.length : Int), .int .i64 (z.gaps.length : Int)]) := hw12 ▸ VB.out
      have VA' : Hid (Blk w12 bv 36 [.int .u32 (x1.R % 16777216), .int .u32 (x1.H % 16777216), .int .u32 (x1.MR % 16777216), .int .i64 (x1.buf.length : Int), .int .i64 (x1.inbox.length : Int), .int .i64 (x1.gaps.length : Int)]) := hw12 ▸ VA.out
      rw [hw12] at O12
      clear VB VA hw12
      obtain ⟨bz, hb⟩ : ∃ bz, bz = w11.heap.size := ⟨_, rfl⟩
      rw [← hb] at VB' hbz ⊢
      clear hb
      go_wp2_with fail
      refine (ostatRf O12.out OKZ.out).mono ?_
      rintro e w13 ⟨B6, d6, l6, rfl, o13, t13, s13, _, _, _, hl6⟩
      have hl6' := hl6 HQ.out
      subst hl6'
      have u1 : w13.cell? ⟨bv, 1, none⟩ = _ := (t13.blk VA'.out VV11.out.1).cell 1
      have y0 : w13.cell? ⟨bz, 0, none⟩ = _ := (t13.blk VB'.out hbz.out).cell 0
      have y1 : w13.cell? ⟨bz, 1, none⟩ = _ := (t13.blk VB'.out hbz.out).cell 1
      have y3 : w13.cell? ⟨bz, 3, none⟩ = _ := (t13.blk VB'.out hbz.out).cell 3
      simp only [List.getElem?_cons_succ, List.getElem?_cons_zero] at u1 y0 y1 y3
      have FF := Lib.hid o13.fresh
      clear o13 t13 s13 VA' VB' VV11 hbz O12 OKZ HQ hl6
      simp only [List.length_nil]
      go_wp2
      go_ret
      exact ⟨by first | rfl | simp, FF.out.below (Nat.le_refl _) (fun _ _ h => h)⟩

set_option maxRecDepth 10000 in
theorem recvNames.walk (start : Int) (v : Value) (w : World) (_h0 : (Lit.int .i64 start).wf = true) {H : Type} {enc : TypeId × Value → H} {b0 : Nat} {d : DataW H} {p : List MemPlace} (hv : Value.okWide Try.prog w .any b0 48 v) (h : DataW.Trod enc Try.prog w 0 (fun _ => true) true 48 v d p) :
    Calls Try.prog 9 #[.int .i64 start, v] w fun e w' => e = .returned (.bool true) ∧ Below w.heap.size w w' := by
  obtain ⟨A, c, l, rfl, hr, hg⟩ := open_rd_act12 hv h
  exact recvNames.core start A c l w hr hg
end Go.Proofs.Ytpjmgdoekeknjaa

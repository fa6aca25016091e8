/-
  RecvOrder: what goes to the inbox are the messages in their order, each as it came first, each once.
-/
import Derived.Test.YtpjmgdoekeknjaaPl12
import Derived.Test.YtpjmgdoekeknjaaRnm
import Derived.Deep.RegionHeld3
namespace Go.Proofs.Ytpjmgdoekeknjaa
open Go.RowKit Go.ChangeShapes Go.WideShapes Go.ChangeAt

set_option maxHeartbeats 8000000 in
set_option maxRecDepth 4000 in
theorem recvOrder.core (start window : Int) (A0 : Option Addr) (c0' : Nat) (l : List Act12) (w : World) (h : Rd act12E w A0 c0' l) (hl : ∀ a ∈ l, a.m.size ≤ maxLen) :
    Calls Try.prog 8 #[.int .i64 start, .int .i64 window, .slice A0 l.length c0'] w fun e w' => e = .returned (.bool true) ∧ Below w.heap.size w w' := by
  have hlc := h.1
  have hcm := h.2.1
  unfold maxLen at hcm
  have HR := Lib.hid h
  have HS := Lib.hid hl
  clear h hl
  have HNW : Hid (∀ W, Fresh w W → Calls Try.prog 11 #[.int .u32 (start % 16777216), .int .i64 window] W fun e w' => ∃ p F, e = .returned (.pointer (some ⟨p, 0, none⟩)) ∧ OwnRecv w w' p F (Rf.prog (Rf.new start window)) ∧ Fresh W w' ∧ ∀ x, F x → W.heap.size ≤ x) := fun W hf => onewR (start % 16777216) window hf (Rv.new_mod start window)
  have HRN : Hid (∀ W, Calls Try.prog 23 #[.int .i64 start, .int .i64 window] W fun e w' => e = .returned (.agg #[.int .i64 (Rf.new start window).R, .int .i64 (Rf.new start window).H, .int .i64 (Rf.new start window).MR, .int .i64 (Rf.new start window).window, .slice none (Rf.new start window).buf.length 0, .slice none (Rf.new start window).inbox.length 0, .slice none (Rf.new start window).gaps.length 0]) ∧ Fresh W w') := fun W => rfnew_any start window W
  have HSO := Lib.hid (sof_any start)
  obtain ⟨x0, hx0⟩ : ∃ x0, x0 = Rf.new start window := ⟨_, rfl⟩
  have hlo : 0 ≤ start % 16777216 ∧ start % 16777216 < 16777216 := by omega
  have HPN : Hid (∀ (W : World) (p b : Nat) (F : Nat → Prop), OwnRecv w W p F (Rf.prog x0) → Blk W b 52 (rfCells x0 none 0 none 0 none 0) → ¬ F b → w.heap.size ≤ b → PlSt w W p b F (fun _ => False) none 0 none 0 none 0 [] x0 (start % 16777216) (start % 16777216)) := by
    intro W p b F h1 h2 h3 h4
    rw [hx0] at h1 h2 ⊢
    exact PlSt.new h1 h2 h3 h4
  rw [← hx0] at HNW HRN
  have HFS0 : Rf.Fst x0 [] (start % 16777216) := by rw [hx0]; exact ⟨fun p hp => (by cases hp), fun k hk => (hk rfl).elim⟩
  have HXR0 : x0.R % 16777216 = start % 16777216 := by rw [hx0]; show start % 16777216 % 16777216 = _; omega
  clear hx0
  generalize start % 16777216 = s0 at *
  have hmm := @run_makeMap Try.prog
  have HFS : Hid (Rf.Fst x0 [] s0) := HFS0
  have HXR : Hid (x0.R % 16777216 = s0) := HXR0
  clear HFS0 HXR0
  go_enter Try.func8, Try.ntmps8
  go_wp2_with fail
  refine (awake12 w).mono ?_
  rintro e w1 ⟨rfl, f1⟩
  have F1 := Lib.hid f1
  clear f1
  simp only
  go_wp2_with fail
  refine (HSO.out w1).mono ?_
  rintro e w2 ⟨rfl, rfl⟩
  simp only
  go_wp2_with fail
  refine (HNW.out w2 F1.out).mono ?_
  rintro e w3 ⟨p, F, rfl, o3, f3, b3⟩
  have O3 := Lib.hid o3
  have F3 := Lib.hid (F1.out.trans f3 (fun _ _ h => h))
  clear o3 f3 b3 HNW
  simp only
  go_wp2_with fail
  refine (HRN.out w3).mono ?_
  rintro e w4 ⟨rfl, f4⟩
  have O4 := Lib.hid (O3.out.old f4)
  clear f4 O3 HRN
  simp only
  have hb := Blk.new w4 52 (rfCells x0 none 0 none 0 none 0)
  have PL := Lib.hid (HPN.out (w4.alloc (.cells (rfCells x0 none 0 none 0 none 0).toArray 52)) p w4.heap.size F (O4.out.old ((Touch.refl _ _).alloc _)) hb (fun hf => Nat.lt_irrefl _ (O4.out.at_.lim _ hf)) O4.out.fresh.size)
  have F4 := Lib.hid O4.out.fresh
  have hFl := O4.out.at_.lim
  clear hb HPN F3 F1
  obtain ⟨b, hb⟩ : ∃ b, b = w4.heap.size := ⟨_, rfl⟩
  obtain ⟨kf, hkf⟩ : ∃ kf, kf = w4.heap.size + 1 := ⟨_, rfl⟩
  have FA : Hid (FirstAt w ((w4.alloc (.cells (rfCells x0 none 0 none 0 none 0).toArray 52)).alloc (.map #[] 0)) F kf []) := by
    have hm := MapAt.made numK (w4.alloc (.cells (rfCells x0 none 0 none 0 none 0).toArray 52))
    rw [show ∀ o, (w4.alloc o).heap.size = w4.heap.size + 1 from fun o => by simp, ← hkf] at hm
    have h4 := F4.out.size
    exact ⟨⟨[], hm, fun _ _ => rfl, fun k v hk => by cases hk⟩, by omega, fun hf => by have := hFl _ hf; omega⟩
  have PL2 := Lib.hid (PL.out.old ((Touch.refl (fun _ => False) _).alloc (.map #[] 0)))
  clear PL O4 hFl F4
  go_upto_region 7 with (fail)
  generalize hw5 : World.alloc (World.alloc w4 _) _ = w5
  have PL3 : Hid (PlSt w w5 p w4.heap.size F (fun _ => False) none 0 none 0 none 0 [] x0 s0 s0) := hw5 ▸ PL2.out
  have FA3 : Hid (FirstAt w w5 F kf []) := hw5 ▸ FA.out
  clear PL2 FA hw5
  have PL2 := PL3
  have FA := FA3
  clear PL3 FA3
  rw [← hkf]
  clear hkf
  rw [← hb] at PL2 ⊢
  clear hb
  go_wp2_with fail
  refine (HSO.out w5).mono ?_
  rintro e w6 ⟨rfl, rfl⟩
  simp only
  go_wp2_with fail
  go_loopw [10, 11] (fun nx i wr => ∃ (k : Nat) (F D : Nat → Prop) (A : Option Addr) (c : Nat) (I : Option Addr) (ci : Nat) (G : Option Addr) (cg : Nat) (L : List (Option Nat)) (x : Rf.S) (hi : Int) (fl : List (Int × ByteArray)), k ≤ l.length ∧ k ≤ 90 ∧ i = .int .i64 k ∧ nx = .int .u32 (x.R % 16777216) ∧ Hid (PlSt w wr p b F D A c I ci G cg L x s0 hi) ∧ hi = s0 + 64 * (k : Int) ∧
    Hid (FirstAt w wr F kf fl) ∧ Hid (Rf.Fst x fl s0)) (fun _ i _ => l.length - (intOf i).toNat)
  case atStart => exact ⟨0, F, _, _, _, _, _, _, _, _, x0, s0, [], by omega, by omega, rfl, by rw [HXR.out], PL2, by omega, FA, HFS⟩
  case round =>
    clear PL2 FA HFS HXR hmm
    obtain ⟨k, F, D, A, c, I, ci, G, cg, L, x, hi, fl, hk, hk90, rfl, rfl, HP, hhi, HFA, HFT⟩ := hrel
    have hcont : (k < l.length ∧ k < 90) ∨ ¬ (k < l.length ∧ k < 90) := Decidable.em _
    rcases hcont with ⟨hk1, hk2⟩ | hstop
    · have hk1' : (k : Int) < (l.length : Int) := by omega
      have hdk1 : decide ((k : Int) < (l.length : Int)) = true := decide_eq_true hk1'
      have hk2' : (k : Int) < 90 := by omega
      have hdk2 : decide ((k : Int) < 90) = true := decide_eq_true hk2'
      have hk0 : (0 : Int) ≤ (k : Int) := by omega
      obtain ⟨ga, oa, rfl, _, e0, e1, e2, e3⟩ := (HR.out.touch HP.out.fresh (fun _ _ _ h => h)).act12_at k hk1
      have ham : (l.getD k ⟨0, 0, false, ByteArray.empty⟩).m.size ≤ maxLen := by
        have e : l.getD k ⟨0, 0, false, ByteArray.empty⟩ = l[k] := by simp [List.getD, List.getElem?_eq_getElem hk1]
        rw [e]
        exact HS.out _ (List.getElem_mem _)
      generalize l.getD k ⟨0, 0, false, ByteArray.empty⟩ = a at *
      go_upto_region 12 with (fail)
      have fr : Fresh wr (wr.alloc (.cells #[.int .i64 a.kind, .int .i64 a.n, .bool a.raw, .string a.m] 57)) := (Touch.refl _ _).alloc _
      have AB := Lib.hid (Blk.new wr 57 [.int .i64 a.kind, .int .i64 a.n, .bool a.raw, .string a.m])
      have HP1 := Lib.hid (HP.out.old fr)
      have HF1 := Lib.hid (HFA.out.old fr)
      have hba : Hid (¬ F wr.heap.size) := fun hf => Nat.lt_irrefl _ (HP.out.st.recv.lim _ hf)
      clear fr HP HFA e0 e1 e2 e3
      generalize hw1 : World.alloc wr _ = w1
      have AB' : Hid (Blk w1 wr.heap.size 57 [.int .i64 a.kind, .int .i64 a.n, .bool a.raw, .string a.m]) := hw1 ▸ AB.out
      rw [hw1] at HP1 HF1
      clear AB hw1
      obtain ⟨ba, hb⟩ : ∃ ba, ba = wr.heap.size := ⟨_, rfl⟩
      rw [← hb] at AB' hba ⊢
      clear hb
      have e0 : w1.cell? ⟨ba, 0, none⟩ = _ := AB'.out.cell 0
      have e1 : w1.cell? ⟨ba, 1, none⟩ = _ := AB'.out.cell 1
      have e2 : w1.cell? ⟨ba, 2, none⟩ = _ := AB'.out.cell 2
      have e3 : w1.cell? ⟨ba, 3, none⟩ = _ := AB'.out.cell 3
      simp only [List.getElem?_cons_succ, List.getElem?_cons_zero] at e0 e1 e2 e3
      obtain ⟨d0, d1, d2, d3, d4, d5, d6⟩ := HP1.out.cells
      by_cases hq : 1 ≤ a.kind ∧ a.kind ≤ 5
      · obtain ⟨hq1, hq2⟩ := hq
        have dq1 : decide (1 ≤ a.kind) = true := decide_eq_true hq1
        have dq2 : decide (a.kind ≤ 5) = true := decide_eq_true hq2
        have HST := Lib.hid (plstep2 HP1.out HF1.out a (by omega) ham)
        unfold act12V at HST
        have HKE := Lib.hid (step_keeps x a hq1 hq2)
        have HFT2 := Lib.hid (HFT.out.same HKE.out.1 HKE.out.2)
        go_wp2_with fail
        refine HST.out.mono ?_
        rintro e w6 ⟨F6, D6, A6, c6, I6, ci6, G6, cg6, L6, rfl, ⟨fz, y0, y1, y2, y3, y4, y5, y6⟩, hp6, hf6⟩
        have HP6 := Lib.hid hp6
        have HF6 := Lib.hid hf6
        clear hp6 hf6 HST HP1 HF1 HFT e0 e1 e2 e3 d0 d1 d2 d3 d4 d5 d6 AB' hba
        rw [← HKE.out.2]
        clear HKE
        generalize Rf.step x a = y at *
        simp only
        go_wp2
        generalize (((((((w6.setCell ⟨b, 0, none⟩ (.int .i64 y.R)).setCell ⟨b, 1, none⟩ (.int .i64 y.H)).setCell ⟨b, 2, none⟩ (.int .i64 y.MR)).setCell ⟨b, 3, none⟩ (.int .i64 y.window)).setCell ⟨b, 4, none⟩ (.slice A6 y.buf.length c6)).setCell ⟨b, 5, none⟩ (.slice I6 y.inbox.length ci6)).setCell ⟨b, 6, none⟩ (.slice G6 y.gaps.length cg6)) = w7 at *
        go_roundw
        case rel => exact ⟨k + 1, F6, D6, A6, c6, I6, ci6, G6, cg6, L6, y, hi + 64, fl, by omega, by omega, by go_num, rfl, HP6, by omega, HF6, HFT2⟩
        case measure => simp [intOf]; omega
      · go_cut [53] (fun s wx => s = .bool false ∧ wx = w1)
        case first =>
          by_cases hq1 : 1 ≤ a.kind
          · have dq1 : decide (1 ≤ a.kind) = true := decide_eq_true hq1
            have dq2 : decide (a.kind ≤ 5) = false := decide_eq_false (fun h => hq ⟨hq1, h⟩)
            clear hq
            go_wp2
            go_meet
            case rel => exact ⟨rfl, rfl⟩
          · have dq1 : decide (1 ≤ a.kind) = false := decide_eq_false hq1
            clear hq
            go_wp2
            go_meet
            case rel => exact ⟨rfl, rfl⟩
        case rest =>
        obtain ⟨rfl, rfl⟩ := hcut
        clear hq d0 d1 d2 d3 d4 d5 d6 e0 e1 e2 e3
        go_upto_region 14 with (fail)
        have ok := HP1.out.st.ok
        have k1 := ok.lo0
        have k2 := ok.lor
        have k3 := ok.rhi
        have k4 := ok.hl
        have HNE := Lib.hid (near_any a x.R (by omega))
        unfold act12V at HNE
        have hnb := near_bd a x.R
        generalize near12 a x.R = n at *
        have hnm : n % 16777216 = n := by omega
        have HS2 := Lib.hid (sof_any n)
        rw [hnm] at HS2
        have HCU := Lib.hid (fun W => cut5_any a.m W ham)
        generalize cut5 a.m = m at *
        have HCN := Lib.hid (Rf.fst_cond HFT.out ok n)
        rw [hnm] at HCN
        have HFD := Lib.hid (Rf.fst_data HFT.out ok (by omega) n m)
        rw [hnm] at HFD
        have HNM : Hid (n % 16777216 = n) := hnm
        clear ok hnm k1 k2 k3 k4
        have KE : Hid (∀ W, Fresh wc W → W.cell? ⟨ba, 0, none⟩ = some (.int .i64 a.kind) ∧ W.cell? ⟨ba, 1, none⟩ = some (.int .i64 a.n) ∧ W.cell? ⟨ba, 2, none⟩ = some (.bool a.raw) ∧ W.cell? ⟨ba, 3, none⟩ = some (.string a.m) ∧ W.cell? ⟨b, 0, none⟩ = some (.int .i64 x.R)) := fun W ht => by
          have hb := ht.blk AB'.out (fun h => h)
          have hx := ht.blk HP1.out.box (fun h => h)
          exact ⟨hb.cell 0, hb.cell 1, hb.cell 2, hb.cell 3, hx.cell 0⟩
        have g1 : Fresh wc wc.drew := (Touch.refl _ _).drew
        go_region_held3 (fun wx => wx.cell? ⟨ba, 0, none⟩ = some (.int .i64 a.kind) ∧ wx.cell? ⟨ba, 1, none⟩ = some (.int .i64 a.n) ∧ wx.cell? ⟨ba, 2, none⟩ = some (.bool a.raw) ∧ wx.cell? ⟨ba, 3, none⟩ = some (.string a.m) ∧ wx.cell? ⟨b, 0, none⟩ = some (.int .i64 x.R))
          (first
            | with_reducible exact KE.out _ (by with_reducible assumption)
            | with_reducible assumption)
          (first
            | (go_simp; go_at_call 26; with_reducible refine (HNE.out _).mono ?_; rintro e' w2 ⟨rfl, f2⟩; have g2 : Fresh wc w2 := g1.trans f2 (fun _ _ h => h))
            | (go_simp; go_at_call 12; with_reducible refine (HS2.out _).mono ?_; rintro e' w3 ⟨rfl, h3⟩; subst h3)
            | (go_simp; go_at_call 19; with_reducible refine (HCU.out _).mono ?_; rintro e' w4' ⟨rfl, h4⟩; subst h4))
        all_goals
          have HP2 := Lib.hid (HP1.out.old g2)
          have HF2 := Lib.hid (HF1.out.old g2)
          clear g1 g2 f2 KE HNE HCU HP1 HF1 AB' hba HS2
          have HVR := Lib.hid (rv_vars HP2.out)
          obtain ⟨r1, hr1⟩ : ∃ r1, x.R % 16777216 = r1 := ⟨_, rfl⟩
          rw [hr1] at HVR HCN ⊢
          have HR1 := Lib.hid hr1
          clear hr1
          generalize x.H % 16777216 = r2 at *
          generalize x.MR % 16777216 = r3 at *
          go_wp2_with fail
          refine HVR.out.mono ?_
          rintro e w5 ⟨rfl, f5⟩
          have hf5 : Fresh w5 (w5.alloc (.cells #[.int .u32 r1, .int .u32 r2, .int .u32 r3, .int .i64 (x.buf.length : Int), .int .i64 (x.inbox.length : Int), .int .i64 (x.gaps.length : Int)] 36)) := (Touch.refl _ _).alloc _
          have HP5 := Lib.hid ((HP2.out.old f5).old hf5)
          have HF5 := Lib.hid ((HF2.out.old f5).old hf5)
          have VB := Lib.hid (Blk.new w5 36 [.int .u32 r1, .int .u32 r2, .int .u32 r3, .int .i64 (x.buf.length : Int), .int .i64 (x.inbox.length : Int), .int .i64 (x.gaps.length : Int)])
          clear f5 hf5 HP2 HF2 HVR
          simp only
          go_upto_region 16 with (fail)
          generalize hw6 : World.alloc w5 _ = w6
          have VB' : Hid (Blk w6 w5.heap.size 36 [.int .u32 r1, .int .u32 r2, .int .u32 r3, .int .i64 (x.buf.length : Int), .int .i64 (x.inbox.length : Int), .int .i64 (x.gaps.length : Int)]) := hw6 ▸ VB.out
          rw [hw6] at HP5 HF5
          clear VB hw6
          have v0 : w6.cell? ⟨w5.heap.size, 0, none⟩ = _ := VB'.out.cell 0
          have v2 : w6.cell? ⟨w5.heap.size, 2, none⟩ = _ := VB'.out.cell 2
          simp only [List.getElem?_cons_succ, List.getElem?_cons_zero] at v0 v2
          have HBT := Lib.hid (btw_any r1 n r3)
          obtain ⟨q1, hq1⟩ : ∃ q1, decide ((n - r1) % 16777216 < (r3 - r1) % 16777216) = q1 := ⟨_, rfl⟩
          rw [hq1] at HBT HCN
          clear hq1
          obtain ⟨tk, htk⟩ : ∃ tk, Rf.takes x (Rf.at_ x n) = tk := ⟨_, rfl⟩
          rw [htk] at HCN HFD
          have HTK := Lib.hid htk
          clear htk VB'
          go_cut [83] (fun s wx => s = .bool tk ∧ wx = w6)
          case first =>
            obtain ⟨mm, mk1, mk2, mk3⟩ := HF5.out.map
            have MM := Lib.hid mk1
            cases q1 with
            | false =>
              have ht : tk = false := HCN.out
              subst ht
              go_wp2_with fail
              refine (HBT.out w6).mono ?_
              rintro e w7 ⟨rfl, rfl⟩
              clear mk1 mk2 mk3 MM HP5 HF5 HFD HFT
              simp only
              go_wp2
              go_meet
              case rel => exact ⟨rfl, rfl⟩
            | true =>
              have hz : ∀ w : World, (zeroValue 30).run Try.prog w = .ok (.slice none 0 0) w := fun w => by kernel_rfl
              cases hg : mget fl n with
              | none =>
                have ht : tk = true := by rw [HCN.out, hg]; rfl
                subst ht
                have hm0 := Lib.hid (mk2 n hg)
                clear mk1 mk2 mk3 HP5 HF5 HFD HFT hg
                go_wp2_with fail
                refine (HBT.out w6).mono ?_
                rintro e w7 ⟨rfl, rfl⟩
                simp only
                go_wp2_with (refine wpList_lookMg rfl rfl (K := numK) (k := n) rfl rfl MM.out Try.underlying60 (hz _) ?_; rw [if_neg (by decide), hm0.out])
                go_meet
                case rel => exact ⟨rfl, rfl⟩
              | some vv =>
                have ht : tk = false := by rw [HCN.out, hg]; rfl
                subst ht
                obtain ⟨bb, hm1, _⟩ := mk3 n vv hg
                have hm0 := Lib.hid hm1
                clear mk1 mk2 mk3 HP5 HF5 HFD HFT hg hm1
                go_wp2_with fail
                refine (HBT.out w6).mono ?_
                rintro e w7 ⟨rfl, rfl⟩
                simp only
                go_wp2_with (refine wpList_lookMg rfl rfl (K := numK) (k := n) rfl rfl MM.out Try.underlying60 (hz _) ?_; rw [if_neg (by decide), hm0.out])
                go_meet
                case rel => exact ⟨rfl, rfl⟩
          case rest =>
            obtain ⟨rfl, rfl⟩ := hcut
            clear v0 v2 HBT HCN
            go_upto_if 83 with (fail)
            obtain ⟨f2, hf2⟩ : ∃ f2, f2 = (if tk = true then mset fl n m else fl) := ⟨_, rfl⟩
            rw [← hf2] at HFD
            have HF2e := Lib.hid hf2
            clear hf2
            go_cut [] (fun wx => Hid (PlSt w wx p b F D A c I ci G cg L x s0 hi) ∧ Hid (FirstAt w wx F kf f2))
            case first =>
              cases tk with
              | false =>
                have e2 : f2 = fl := HF2e.out
                subst e2
                go_wp2
                go_meet
                case rel => exact ⟨HP5, HF5⟩
              | true =>
                have e2 : f2 = mset fl n m := HF2e.out
                subst e2
                have hfr : Fresh wc (wc.alloc (.cells #[.string m] 9)) := (Touch.refl _ _).alloc _
                have HF6 := Lib.hid (HF5.out.old hfr)
                have HP6 := Lib.hid (HP5.out.old hfr)
                have HB6 := Lib.hid (Blk.new wc 9 [.string m])
                have HB0 : Hid (w.heap.size ≤ wc.heap.size ∧ ¬ F wc.heap.size) := ⟨HP5.out.fresh.size, fun hf => Nat.lt_irrefl _ (HP5.out.st.recv.lim _ hf)⟩
                obtain ⟨mm, mk1, mk2, mk3⟩ := HF6.out.map
                have MM := Lib.hid mk1
                have M2 := Lib.hid mk2
                have M3 := Lib.hid mk3
                clear hfr mk1 mk2 mk3 HP5 HF5 HFD HFT HF2e
                go_wp2_with (refine wpList_storeM rfl rfl (K := numK) (k := n) rfl rfl MM.out Try.underlying60 ?_; intro w9 hm9 ht9; have HF9 := Lib.hid (HF6.out.add M2.out M3.out (show MapAt numK w9 kf (mset mm n (.slice (some ⟨wc.heap.size, 0, none⟩) 1 1)) from hm9) ht9 MM.out HB6.out HB0.out.1 HB0.out.2); have HP9 := Lib.hid (HP6.out.mapped MM.out HF6.out.off ht9 HF6.out.low); clear hm9 ht9)
                go_meet
                case rel => exact ⟨HP9, HF9⟩
            case rest =>
              obtain ⟨HP6, HF6⟩ := hcut
              clear HP5 HF5 HF2e
              have ok := HP6.out.st.ok
              have k1 := ok.lo0
              have k2 := ok.lor
              have k3 := ok.rhi
              have k4 := ok.hl
              have hil := ok.ilen
              have HDA := Lib.hid (odataRf HP6.out.own ok (by omega) n m)
              rw [HNM.out] at HDA
              have HOK := Lib.hid (ok.data n m (by omega)).2
              have HRD : Hid (∀ W, Touch F wc W → Calls Try.prog 28 #[.agg #[.int .i64 x.R, .int .i64 x.H, .int .i64 x.MR, .int .i64 x.window, .slice A x.buf.length c, .slice I x.inbox.length ci, .slice G x.gaps.length cg], .int .i64 n, .string m] W (RfDataPost W D (Rf.data x n m).1 (Rf.data x n m).2)) := fun W hT => by
                have := rfdata_any D A c I ci G cg L x n m W (HP6.out.st.ins.touch HP6.out.st.dom hT (fun k hk hf => HP6.out.st.off k hf hk)) HP6.out.st.dom HP6.out.st.ok (by omega)
                exact this
              generalize Rf.data x n m = dz at *
              obtain ⟨y, O⟩ := dz
              simp only at HFD HDA HOK HRD
              clear ok
              go_wp2_with fail
              refine HDA.out.mono ?_
              rintro e w7 ⟨F7, B7, d7, rfl, s7, o7, t7, g7, _⟩
              have O7 := Lib.hid o7
              have S7 := Lib.hid s7
              have T7 := Lib.hid t7
              have G7 := Lib.hid g7
              have HF7 := Lib.hid (HF6.out.step t7 g7)
              have BX7 := Lib.hid (t7.blk HP6.out.box HP6.out.nf)
              have hoc := s7.1
              have hom := s7.2.1
              unfold maxLen at hom
              clear s7 o7 t7 g7 HDA HF6 HFT
              simp only
              go_wp2_with fail
              rw [← HR1.out]
              go_loopw [10, 93] (fun nx i wr => ∃ j : Nat, j ≤ O.length ∧ i = .int .i64 j ∧ nx = .int .u32 ((x.R + (j : Int)) % 16777216) ∧ wr = w7) (fun _ i _ => O.length - (intOf i).toNat)
              case atStart => exact ⟨0, by omega, rfl, by simp, rfl⟩
              case round =>
                obtain ⟨j, hj, rfl, rfl, rfl⟩ := hrel
                by_cases hlt : j < O.length
                · obtain ⟨go, oo, rfl, _, cv⟩ := S7.out.str_at j hlt
                  have hjl : (j : Int) < (O.length : Int) := by omega
                  have hj0 : (0 : Int) ≤ (j : Int) := by omega
                  have hv := HFD.out.2.2 j hlt
                  have ev : O.getD j ByteArray.empty = O[j] := by simp [List.getD, List.getElem?_eq_getElem hlt]
                  rw [ev] at cv
                  generalize O[j] = v at *
                  obtain ⟨mm, mk1, mk2, mk3⟩ := HF7.out.map
                  obtain ⟨bb, hm1, hbb, _⟩ := mk3 _ v hv
                  have hm0 := Lib.hid hm1
                  have MM := Lib.hid mk1
                  have cb : wr.cell? ⟨bb, 0, none⟩ = some (.string v) := hbb.cell 0
                  have hz : ∀ w : World, (zeroValue 30).run Try.prog w = .ok (.slice none 0 0) w := fun w => by kernel_rfl
                  have hsv : (v.toList == v.toList) = true := str_eq rfl
                  have hnx : ((x.R + (j : Int)) % 16777216 + 1) % 16777216 = (x.R + ((j + 1 : Nat) : Int)) % 16777216 := by omega
                  have HAD := Lib.hid (sadd_any ((x.R + (j : Int)) % 16777216) 1)
                  rw [hnx] at HAD
                  clear hnx hm1 hv ev mk1 mk2 mk3 hbb
                  generalize (x.R + (j : Int)) % 16777216 = k0 at *
                  go_wp2_with (first
                    | (refine wpList_lookM rfl rfl (K := numK) (k := k0) rfl rfl MM.out Try.underlying60 (hz _) ?_; rw [if_neg (by decide), hm0.out]; simp only [Option.getD_some])
                    | (refine wpList_lookMg rfl rfl (K := numK) (k := k0) rfl rfl MM.out Try.underlying60 (hz _) ?_; rw [if_neg (by decide), hm0.out]; simp only [Option.getD_some]))
                  refine (HAD.out _).mono ?_
                  rintro e w9 ⟨rfl, rfl⟩
                  simp only
                  go_wp2
                  go_roundw
                  case rel => exact ⟨j + 1, by omega, by go_num, rfl, by first | rfl | trivial⟩
                  case measure => simp [intOf]; omega
                · obtain rfl : j = O.length := by omega
                  have hjl : ¬ ((O.length : Int) < (O.length : Int)) := by omega
                  have hR : x.R + (O.length : Int) = y.R := HFD.out.2.1.symm
                  rw [hR]
                  obtain ⟨d0, d1, d2, d3, d4, d5, d6⟩ : wr.cell? ⟨b, 0, none⟩ = some (.int .i64 x.R) ∧ wr.cell? ⟨b, 1, none⟩ = some (.int .i64 x.H) ∧ wr.cell? ⟨b, 2, none⟩ = some (.int .i64 x.MR) ∧ wr.cell? ⟨b, 3, none⟩ = some (.int .i64 x.window) ∧ wr.cell? ⟨b, 4, none⟩ = some (.slice A x.buf.length c) ∧ wr.cell? ⟨b, 5, none⟩ = some (.slice I x.inbox.length ci) ∧ wr.cell? ⟨b, 6, none⟩ = some (.slice G x.gaps.length cg) := ⟨BX7.out.cell 0, BX7.out.cell 1, BX7.out.cell 2, BX7.out.cell 3, BX7.out.cell 4, BX7.out.cell 5, BX7.out.cell 6⟩
                  clear hR
                  go_wp2_with fail
                  refine (HRD.out wr T7.out).mono ?_
                  rintro e w8 ⟨A8, c8, I8, ci8, G8, cg8, L8, B8, d8, rfl, i8, dm8, f8, so8, _⟩
                  have O8 := Lib.hid (O7.out.old f8)
                  have HF8 := Lib.hid (HF7.out.old f8)
                  have BX8 := Lib.hid (f8.blk BX7.out (fun h => h))
                  have hT : Touch (· = b) w8 (((((((w8.setCell ⟨b, 0, none⟩ (.int .i64 y.R)).setCell ⟨b, 1, none⟩ (.int .i64 y.H)).setCell ⟨b, 2, none⟩ (.int .i64 y.MR)).setCell ⟨b, 3, none⟩ (.int .i64 y.window)).setCell ⟨b, 4, none⟩ (.slice A8 y.buf.length c8)).setCell ⟨b, 5, none⟩ (.slice I8 y.inbox.length ci8)).setCell ⟨b, 6, none⟩ (.slice G8 y.gaps.length cg8)) := Touch.st7 (S := (· = b)) (Touch.refl _ w8) rfl
                  have hbl : b < wc.heap.size := HP6.out.box.lt
                  have hsz : wc.heap.size ≤ wr.heap.size := T7.out.size
                  have hnf : ¬ F7 b := fun hf => by
                    rcases G7.out b hf with e | e
                    · exact HP6.out.nf e
                    · omega
                  have HP9 : Hid (PlSt w (((((((w8.setCell ⟨b, 0, none⟩ (.int .i64 y.R)).setCell ⟨b, 1, none⟩ (.int .i64 y.H)).setCell ⟨b, 2, none⟩ (.int .i64 y.MR)).setCell ⟨b, 3, none⟩ (.int .i64 y.window)).setCell ⟨b, 4, none⟩ (.slice A8 y.buf.length c8)).setCell ⟨b, 5, none⟩ (.slice I8 y.inbox.length ci8)).setCell ⟨b, 6, none⟩ (.slice G8 y.gaps.length cg8)) p b F7 (fun k => (D k ∨ wr.heap.size ≤ k) ∧ k < w8.heap.size) A8 c8 I8 ci8 G8 cg8 L8 y s0 (hi + 64)) := by
                    refine ⟨⟨O8.out.at_.touch hT (fun k hk e => hnf (e ▸ hk)), i8.far BX8.out hT, dm8.lim i8, fun k hk => Nat.lt_of_lt_of_le hk.2 hT.size, fun k hk hd => ?_, HOK.out⟩, Blk.set7 BX8.out _ _ _ _ _ _ _, hnf, O8.out.fresh.trans hT (fun k hk e => by have := HP6.out.base.1; omega), HP6.out.base.1, O7.out.base⟩
                    rcases G7.out k hk with e | e
                    · rcases hd.1 with e2 | e2
                      · exact HP6.out.st.off k e e2
                      · have := HP6.out.st.recv.lim k e; omega
                    · rcases hd.1 with e2 | e2
                      · have := HP6.out.st.lim k e2; omega
                      · have := O7.out.at_.lim k hk; omega
                  have HF9 := Lib.hid (HF8.out.far BX8.out hT)
                  have fz := fun i => BX8.out.frozen i
                  obtain ⟨y0, y1, y2, y3, y4, y5, y6⟩ : w8.cell? ⟨b, 0, none⟩ = some (.int .i64 x.R) ∧ w8.cell? ⟨b, 1, none⟩ = some (.int .i64 x.H) ∧ w8.cell? ⟨b, 2, none⟩ = some (.int .i64 x.MR) ∧ w8.cell? ⟨b, 3, none⟩ = some (.int .i64 x.window) ∧ w8.cell? ⟨b, 4, none⟩ = some (.slice A x.buf.length c) ∧ w8.cell? ⟨b, 5, none⟩ = some (.slice I x.inbox.length ci) ∧ w8.cell? ⟨b, 6, none⟩ = some (.slice G x.gaps.length cg) := ⟨BX8.out.cell 0, BX8.out.cell 1, BX8.out.cell 2, BX8.out.cell 3, BX8.out.cell 4, BX8.out.cell 5, BX8.out.cell 6⟩
                  have HFY := Lib.hid HFD.out.1
                  clear d0 d1 d2 d3 d4 d5 d6 i8 dm8 f8 so8 hT hnf O8 HF8 BX8 O7 S7 T7 G7 HF7 BX7 HFD HRD HOK HP6 k1 k2 k3 k4
                  unfold rfV
                  simp only
                  go_upto_region 26 with (fail)
                  clear fz y0 y1 y2 y3 y4 y5 y6
                  generalize (((((((w8.setCell ⟨b, 0, none⟩ (.int .i64 y.R)).setCell ⟨b, 1, none⟩ (.int .i64 y.H)).setCell ⟨b, 2, none⟩ (.int .i64 y.MR)).setCell ⟨b, 3, none⟩ (.int .i64 y.window)).setCell ⟨b, 4, none⟩ (.slice A8 y.buf.length c8)).setCell ⟨b, 5, none⟩ (.slice I8 y.inbox.length ci8)).setCell ⟨b, 6, none⟩ (.slice G8 y.gaps.length cg8)) = w9 at *
                  have HVR := Lib.hid (rv_vars HP9.out)
                  generalize hr1 : y.R % 16777216 = r1' at *
                  have HRY := Lib.hid hr1
                  clear hr1
                  have hfl : ∀ (a1 a2 a3 a4 a5 a6 : Value) (W : World), (Instr.field 36 (.agg #[a1, a2, a3, a4, a5, a6]) 0).run Try.prog W = .ok a1 W := fun a1 a2 a3 a4 a5 a6 W => by kernel_rfl
                  go_wp2_with fail
                  refine HVR.out.mono ?_
                  rintro e w10 ⟨rfl, f10⟩
                  have HP10 := Lib.hid (HP9.out.old f10)
                  have HF10 := Lib.hid (HF9.out.old f10)
                  clear f10 HP9 HF9 HVR
                  simp only
                  go_wp2
                  go_roundw
                  case rel => exact ⟨k + 1, F7, _, A8, c8, I8, ci8, G8, cg8, L8, y, hi + 64, f2, by omega, by omega, by go_num, by rw [HRY.out], HP10, by omega, HF10, HFY⟩
                  case measure => simp [intOf]; omega
    · have FF := Lib.hid HP.out.fresh
      by_cases h1 : k < l.length
      · have hk1' : (k : Int) < (l.length : Int) := by omega
        have hdk1 : decide ((k : Int) < (l.length : Int)) = true := decide_eq_true hk1'
        have hk2' : ¬ (k : Int) < 90 := by omega
        have hdk2 : decide ((k : Int) < 90) = false := decide_eq_false hk2'
        clear HP HFA HFT
        go_wp2
        go_ret
        exact ⟨rfl, FF.out.below (Nat.le_refl _) (fun _ _ h => h)⟩
      · have hk1' : ¬ (k : Int) < (l.length : Int) := by omega
        have hdk1 : decide ((k : Int) < (l.length : Int)) = false := decide_eq_false hk1'
        clear HP HFA HFT
        go_wp2
        go_ret
        exact ⟨rfl, FF.out.below (Nat.le_refl _) (fun _ _ h => h)⟩

set_option maxRecDepth 10000 in
theorem recvOrder.walk (start window : Int) (v : Value) (w : World) (_h0 : (Lit.int .i64 start).wf = true) (_h1 : (Lit.int .i64 window).wf = true) {H : Type} {enc : TypeId × Value → H} {b0 : Nat} {d : DataW H} {p : List MemPlace} (hv : Value.okWide Try.prog w .any b0 48 v) (h : DataW.Trod enc Try.prog w 0 (fun _ => true) true 48 v d p) :
    Calls Try.prog 8 #[.int .i64 start, .int .i64 window, v] w fun e w' => e = .returned (.bool true) ∧ Below w.heap.size w w' := by
  obtain ⟨A, c, l, rfl, hr, hg⟩ := open_rd_act12 hv h
  exact recvOrder.core start window A c l w hr hg
end Go.Proofs.Ytpjmgdoekeknjaa

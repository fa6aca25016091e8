/-
  SendTells: with an error nothing is changed.
-/
import Derived.Test.YtajdnllkkekmnaaGreatPl11
import Derived.Deep.RegionLaw
namespace Go.Proofs.YtajdnllkkekmnaaGreat
open Go.RowKit Go.ChangeShapes Go.WideShapes Go.ChangeAt
set_option maxRecDepth 20000
set_option linter.constructorNameAsVariable false

set_option maxHeartbeats 16000000 in
set_option maxRecDepth 8000 in
theorem sendTells.core (start : Int) (A0 : Option Addr) (c0' : Nat) (l : List Act11b) (bz : Act11b) (w : World) (h : Rd act11E w A0 c0' l) (hl : ∀ a ∈ l, a.Good w) (hbz : bz.Good w) :
    Calls Tryz.prog 5 #[.int .i64 start, .slice A0 l.length c0', act11V bz.a bz.A bz.c] w fun e w' => e = .returned (.bool true) ∧ Below w.heap.size w w' := by
  have hlc := h.1
  have hcm := h.2.1
  unfold maxLen at hcm
  have HR := Lib.hid h
  have HS := Lib.hid hl
  have HZ := Lib.hid hbz
  clear h hl hbz
  have HSO := Lib.hid (sof_any start)
  have HNW : Hid (∀ B W, Fresh B W → Calls Tryz.prog 8 #[.int .u32 (start % 16777216), .int .i64 4, .int .i64 5] W fun e w' => ∃ p, e = .returned (.pointer (some ⟨p, 0, none⟩)) ∧ OwnSend B w' p (Sf.prog (Sf.new start 4 5))) := fun B W hf => onew (start % 16777216) 4 5 hf (Sd.new_mod start 4 5)
  have HRN := Lib.hid (fun W => sfnew_any start 4 5 W)
  have HPN := Lib.hid (fun (B W : World) (p : Nat) (h : OwnSend B W p (Sf.prog (Sf.new start 4 5))) => PlSt11.new h)
  unfold sfV at HRN
  generalize Sf.new start 4 5 = x0 at *
  have hsn : 0 ≤ start % 16777216 ∧ start % 16777216 < 16777216 := by omega
  generalize start % 16777216 = s0 at *
  have HB0 : Hid (Blk (w.alloc (.cells #[.int .i64 bz.a.kind, .int .i64 bz.a.r, .int .i64 bz.a.mr, .int .i64 bz.a.ps, .slice bz.A bz.a.l.length bz.c, .bool bz.a.raw, .string bz.a.m] 38)) w.heap.size 38 (act11C bz.a bz.A bz.c)) := Blk.new w _ (act11C bz.a bz.A bz.c)
  have FW : Hid (Fresh w (w.alloc (.cells #[.int .i64 bz.a.kind, .int .i64 bz.a.r, .int .i64 bz.a.mr, .int .i64 bz.a.ps, .slice bz.A bz.a.l.length bz.c, .bool bz.a.raw, .string bz.a.m] 38))) := (Touch.refl _ _).alloc _
  unfold act11V
  go_enter Tryz.func5, Tryz.ntmps5
  go_upto_region 1 with (fail)
  generalize w.alloc _ = w0 at *
  go_wp2_with fail
  refine (awake11 w0).mono ?_
  rintro e w1 ⟨rfl, f1⟩
  have F1 := Lib.hid f1
  clear f1
  simp only
  go_wp2_with fail
  refine (HSO.out w1).mono ?_
  rintro e w2 ⟨rfl, rfl⟩
  simp only
  go_wp2_with fail
  refine (HNW.out w0 w2 F1.out).mono ?_
  rintro e w3 ⟨p, rfl, o3⟩
  have O3 := Lib.hid o3
  clear o3 HNW
  simp only
  go_wp2_with fail
  refine (HRN.out w3).mono ?_
  rintro e w4 ⟨rfl, f4⟩
  have O4 := Lib.hid (O3.out.old f4)
  clear f4 O3 HRN
  simp only
  have PL := Lib.hid (HPN.out w0 w4 p O4.out)
  clear O4 HPN F1
  go_upto_block 0 with (fail)
  generalize World.alloc w4 _ = w5 at *
  obtain ⟨b, hb⟩ : ∃ b, b = w4.heap.size := ⟨_, rfl⟩
  rw [← hb] at PL ⊢
  generalize (fun k => w0.heap.size ≤ k ∧ k < b) = F0 at PL
  clear hb
  go_cut [] (fun wx => ∃ (F D : Nat → Prop) (P : SfP) (x : Sf.S) (hi : Int), Hid (PlSt11 w0 wx p b F D P x s0 hi) ∧ hi ≤ s0 + 160)
  case first =>
    go_wp2_with fail
    go_loopw [9] (fun i wr => ∃ (k : Nat) (F D : Nat → Prop) (P : SfP) (x : Sf.S) (hi : Int), k ≤ l.length ∧ k ≤ 40 ∧ i = .int .i64 k ∧ Hid (PlSt11 w0 wr p b F D P x s0 hi) ∧ hi = s0 + 4 * (k : Int)) (fun i _ => l.length - (intOf i).toNat)
    case atStart => exact ⟨0, F0, _, _, _, s0, by omega, by omega, rfl, PL, by omega⟩
    case round =>
      clear PL
      obtain ⟨k, F, D, P, x, hi, hk, hk80, rfl, HP, hhi⟩ := hrel
      have hcont : (k < l.length ∧ k < 40) ∨ ¬ (k < l.length ∧ k < 40) := Decidable.em _
      rcases hcont with ⟨hk1, hk2⟩ | hstop
      · have hk1' : (k : Int) < (l.length : Int) := by omega
        have hdk1 : decide ((k : Int) < (l.length : Int)) = true := decide_eq_true hk1'
        have hk2' : (k : Int) < 40 := by omega
        have hdk2 : decide ((k : Int) < 40) = true := decide_eq_true hk2'
        have hk0 : (0 : Int) ≤ (k : Int) := by omega
        obtain ⟨z, hz⟩ : ∃ z, l.getD k Act11b.none = z := ⟨_, rfl⟩
        have HG := Lib.hid (Act11b.good_at HS.out (FW.out.trans HP.out.fresh (fun _ _ h => h)) k hk1 hz)
        obtain ⟨ga, oa, rfl, _, e0, e1, e2, e3, e4, e5, e6⟩ := (HR.out.touch (FW.out.trans HP.out.fresh (fun _ _ h => h)) (fun _ _ _ h => h)).act11_at k hk1 hz
        clear hz
        obtain ⟨⟨ak, ar, am, aps, al, araw, aM⟩, zA, zc⟩ := z
        obtain ⟨y, hy⟩ : ∃ y, Sf.step x ⟨ak, ar, am, aps, al, araw, aM⟩ (cut5 aM) = y := ⟨_, rfl⟩
        obtain ⟨d0, d1, d2, d3, d4, d5, d6, d7, d8, d9, da, db⟩ := HP.out.cells
        have HST := Lib.hid (fun W (hf : Fresh wr W) => plstep11 (HP.out.old hf) _ zA zc (HG.out.1.touch hf (fun _ _ _ h => h)) HG.out.2.1 HG.out.2.2 (by omega) hy)
        clear hy HG
        simp only at HST e0 e1 e2 e3 e4 e5 e6
        have g1 : Fresh wr wr.drew := (Touch.refl _ _).drew
        generalize al.length = aln at *
        go_upto_region 9 with (fail)
        go_region_law (go_simp; go_at_call 11; refine (HST.out _ (by assumption)).mono ?_; rintro e' w6 ⟨F6, D6, P6, rfl, ⟨fz, y0, y1, y2, y3, y4, y5, y6, y7, y8, y9, ya, yb⟩, hp6, _⟩; have HP6 := Lib.hid hp6; clear hp6)
        all_goals
          clear y0 y1 y2 y3 y4 y5 y6 y7 y8 y9 ya yb fz HST g1 e0 e1 e2 e3 e4 e5 e6 d0 d1 d2 d3 d4 d5 d6 d7 d8 d9 da db HP
          generalize ((((((((((((w6.setCell ⟨b, 0, none⟩ (.int .i64 y.s)).setCell ⟨b, 1, none⟩ (.int .i64 y.a)).setCell ⟨b, 2, none⟩ (.int .i64 y.ms)).setCell ⟨b, 3, none⟩ (.int .i64 y.ps)).setCell ⟨b, 4, none⟩ (.int .i64 y.pa)).setCell ⟨b, 5, none⟩ (.int .i64 y.units)).setCell ⟨b, 6, none⟩ (.int .i64 y.polls)).setCell ⟨b, 7, none⟩ (.int .i64 (y.most : Int))).setCell ⟨b, 8, none⟩ (.slice P6.W y.wait.length P6.cw)).setCell ⟨b, 9, none⟩ (.slice P6.K y.kept.length P6.ck)).setCell ⟨b, 10, none⟩ (.slice P6.L y.last.length P6.cl)).setCell ⟨b, 11, none⟩ (.slice P6.G y.again.length P6.cg)) = w7 at *
          go_wp2
          go_roundw
          case rel => exact ⟨k + 1, F6, D6, P6, y, hi + 4, by omega, by omega, by go_num, HP6, by omega⟩
          case measure => simp [intOf]; omega
      · by_cases h1 : k < l.length
        · have hk1' : (k : Int) < (l.length : Int) := by omega
          have hdk1 : decide ((k : Int) < (l.length : Int)) = true := decide_eq_true hk1'
          have hk2' : ¬ (k : Int) < 40 := by omega
          have hdk2 : decide ((k : Int) < 40) = false := decide_eq_false hk2'
          go_wp2
          go_meet
          case rel => exact ⟨F, D, P, x, hi, HP, by omega⟩
        · have hk1' : ¬ (k : Int) < (l.length : Int) := by omega
          have hdk1 : decide ((k : Int) < (l.length : Int)) = false := decide_eq_false hk1'
          go_wp2
          go_meet
          case rel => exact ⟨F, D, P, x, hi, HP, by omega⟩
  case rest =>
    clear PL
    obtain ⟨F, D, P, x, hi, HP, hhi⟩ := hcut
    have HOK := Lib.hid HP.out.st.ok
    have hlo0 := HOK.out.lo0
    have hhl := HOK.out.hl
    have hab : 0 ≤ x.a ∧ x.a ≤ 100000000 ∧ 0 ≤ x.s ∧ x.s ≤ 100000000 ∧ 0 ≤ x.pa ∧ x.pa ≤ 100000000 := by
      have h1 := HOK.out.lo0; have h2 := HOK.out.la; have h3 := HOK.out.klen; have h4 := HOK.out.shi; have h5 := HOK.out.hl; have h6 := HOK.out.lpa; have h7 := HOK.out.pas; have h8 := HOK.out.phi
      omega
    have HNU : Hid (Calls Tryz.prog 15 #[act11V bz.a bz.A bz.c, sfV x P] wc fun e w' => ∃ C d, e = .returned (.tuple #[.int .i64 (Sf.numR x bz.a), .int .i64 (Sf.numM x bz.a), .int .i64 (Sf.numP x bz.a), .slice C (Sf.numL x bz.a).length d]) ∧ Mine intE wc w' C d (Sf.numL x bz.a)) :=
      nums11_any bz.a bz.A bz.c x P wc (HZ.out.1.touch (FW.out.trans HP.out.fresh (fun _ _ h => h)) (fun _ _ _ h => h)) HZ.out.len hab
    have HNB : Hid ((0 ≤ Sf.numR x bz.a ∧ Sf.numR x bz.a < 16777216) ∧ (0 ≤ Sf.numM x bz.a ∧ Sf.numM x bz.a < 16777216) ∧ (0 ≤ Sf.numP x bz.a ∧ Sf.numP x bz.a < 16777216) ∧ (Sf.numL x bz.a).map (fun n => n % 16777216) = Sf.numL x bz.a ∧ (Sf.numL x bz.a).length ≤ 12) := ⟨near11_bd _ _ _, near11_bd _ _ _, near11_bd _ _ _, numL_low x bz.a, numL_len x bz.a⟩
    have BA := Lib.hid (HP.out.fresh.blk HB0.out (fun h => h))
    have a0 : wc.cell? ⟨w.heap.size, 0, none⟩ = some (.int .i64 bz.a.kind) := BA.out.cell 0
    have a1 : wc.cell? ⟨w.heap.size, 1, none⟩ = some (.int .i64 bz.a.r) := BA.out.cell 1
    have a2 : wc.cell? ⟨w.heap.size, 2, none⟩ = some (.int .i64 bz.a.mr) := BA.out.cell 2
    have a3 : wc.cell? ⟨w.heap.size, 3, none⟩ = some (.int .i64 bz.a.ps) := BA.out.cell 3
    have a4 : wc.cell? ⟨w.heap.size, 4, none⟩ = some (.slice bz.A bz.a.l.length bz.c) := BA.out.cell 4
    have a5 : wc.cell? ⟨w.heap.size, 5, none⟩ = some (.bool bz.a.raw) := BA.out.cell 5
    have a6 : wc.cell? ⟨w.heap.size, 6, none⟩ = some (.string bz.a.m) := BA.out.cell 6
    clear BA hab
    obtain ⟨d0, d1, d2, d3, d4, d5, d6, d7, d8, d9, da, db⟩ := HP.out.cells
    unfold act11V sfV at HNU
    generalize Sf.numR x bz.a = nr at *
    generalize Sf.numM x bz.a = nm at *
    generalize Sf.numP x bz.a = np at *
    generalize Sf.numL x bz.a = nl at *
    go_wp2_with fail
    refine HNU.out.mono ?_
    rintro e w2' ⟨C, d, rfl, m⟩
    have HP2 := Lib.hid (HP.out.old m.fresh)
    have C2 : Hid (Sl intE w2' C d nl) := m.sl
    have CF2 : Hid (∀ ad, C = some ad → ¬ F ad.block) := fun ad e hf => by
      have h1 := m.base ad e
      have h2 := HP.out.st.lim _ hf
      omega
    have hnl : nl.length ≤ 12 := HNB.out.2.2.2.2
    clear m HNU HP a0 a1 a2 a3 a4 a5 a6 d0 d1 d2 d3 d4 d5 d6 d7 d8 d9 da db
    have HO1 : Hid (∀ W, Calls Tryz.prog 9 #[.int .i64 nr] W fun e w' => e = .returned (.int .u32 nr) ∧ w' = W) := fun W => by
      have := sof_any nr W
      rwa [Int.emod_eq_of_lt HNB.out.1.1 HNB.out.1.2] at this
    have HO2 : Hid (∀ W, Calls Tryz.prog 9 #[.int .i64 nm] W fun e w' => e = .returned (.int .u32 nm) ∧ w' = W) := fun W => by
      have := sof_any nm W
      rwa [Int.emod_eq_of_lt HNB.out.2.1.1 HNB.out.2.1.2] at this
    have HO3 : Hid (∀ W, Calls Tryz.prog 9 #[.int .i64 np] W fun e w' => e = .returned (.int .u32 np) ∧ w' = W) := fun W => by
      have := sof_any np W
      rwa [Int.emod_eq_of_lt HNB.out.2.2.1.1 HNB.out.2.2.1.2] at this
    have HOWN : Hid (∀ W, Sl intE W C d nl → Calls Tryz.prog 17 #[.slice C nl.length d] W fun e w' => ∃ B d', e = .returned (.slice B nl.length d') ∧ Mine numE W w' B d' nl) := fun W hW => by
      have := own11_any C d nl W hW.rd (by omega)
      rwa [HNB.out.2.2.2.1] at this
    simp only
    go_wp2_with fail
    refine (HO1.out _).mono ?_
    rintro e w6 ⟨rfl, h6⟩
    have h6 := h6.symm
    subst h6
    simp only
    go_wp2_with fail
    refine (HO2.out _).mono ?_
    rintro e w6 ⟨rfl, h6⟩
    have h6 := h6.symm
    subst h6
    simp only
    go_wp2_with fail
    refine (HO3.out _).mono ?_
    rintro e w6 ⟨rfl, h6⟩
    have h6 := h6.symm
    subst h6
    simp only
    go_wp2_with fail
    refine (HOWN.out _ C2.out).mono ?_
    rintro e w3 ⟨B3, d3, rfl, m3⟩
    have HP3 := Lib.hid (HP2.out.old m3.fresh)
    have C3 : Hid (Sl intE w3 C d nl) := C2.out.touch m3.fresh (fun _ _ h => h)
    have HST := Lib.hid (sstat_any p F x s0 hi HOK.out nr nm np B3 d3 nl w3 HP3.out.st.send m3.sl.rd (by omega) HNB.out.2.1)
    have HER := Lib.hid (fun h => Sf.stat_err (x := x) (r := nr) (mr := nm) (ps := np) (l := nl) h)
    have HOY := Lib.hid (HOK.out.stat nr nm np nl)
    have HRP : Hid (∀ W, SfIn W P x → (∀ k, D k → k < W.heap.size) → Rd intE W C d nl → Calls Tryz.prog 18 #[sfV x P, .bool true, .int .i64 nr, .int .i64 nm, .int .i64 np, .slice C nl.length d] W (SfRepPost W D (Sf.stat x nr nm np nl))) := fun W h1 h2 h3 => sfrep_true P D x nr nm np C d nl W h1 HP3.out.st.dom h2 HOK.out h3 (by omega)
    clear m3 HP2 C2
    generalize Sf.stat x nr nm np nl = z at *
    obtain ⟨y, n, er⟩ := z
    unfold StatPost at HST
    unfold SfRepPost sfV at HRP
    simp only at HST HER HOY HRP
    simp only
    go_wp2_with fail
    refine HST.out.mono ?_
    rintro e w4 ⟨rfl, s4, t4⟩
    have S4 := Lib.hid s4
    have T4 := Lib.hid t4
    have C4 : Hid (Sl intE w4 C d nl) := C3.out.touch t4 (fun ad e h => CF2.out ad e h)
    have CW3 : Hid (∀ ad, C = some ad → ad.block < w3.heap.size) := fun ad e => C3.out.lt ad e
    clear s4 t4 HST C3
    simp only
    go_upto_region 12 with (fail)
    go_cut [90] (fun s wx => s = .bool false ∧ ((er = 0 ∧ wx = w4) ∨ (er ≠ 0 ∧ Hid (∃ F' : Nat → Prop, PlSt11 w0 wx p b F' D P x s0 hi ∧ Sl intE wx C d nl ∧ ∀ ad, C = some ad → ¬ F' ad.block))))
    case first =>
      have CFN : Hid (∀ ad, C = some ad → ¬ Within F w3.heap.size w4.heap.size ad.block) := fun ad e hf => by
        rcases hf with hf | hf
        · exact CF2.out ad e hf
        · have := CW3.out ad e; omega
      by_cases her : er = 0
      · subst her
        clear HER
        go_wp2
        go_meet
        case rel => exact ⟨by first | rfl | trivial, .inl ⟨by first | rfl | trivial, by first | rfl | trivial⟩⟩
      · obtain ⟨h1, h2, h3⟩ := HER.out her
        subst h1 h2
        have HPS := Lib.hid (HP3.out.same S4.out T4.out)
        have HIS := Lib.hid (is11_any p _ P y s0 hi HPS.out.st.ok w4 HPS.out.st.send HPS.out.st.ins)
        unfold sfV at HIS
        obtain ⟨d0, d1, d2, d3', d4, d5, d6, d7, d8, d9, da, db⟩ := HPS.out.cells
        clear HRP HP3 S4 T4 HER HOY
        rcases h3 with rfl | rfl
        all_goals
          go_wp2_with fail
          refine HIS.out.mono ?_
          rintro e w5' ⟨rfl, f5⟩
          have HP5 := Lib.hid (HPS.out.old f5)
          have C5 : Hid (Sl intE w5' C d nl) := C4.out.touch f5 (fun _ _ h => h)
          clear f5 HIS HPS C4 d0 d1 d2 d3' d4 d5 d6 d7 d8 d9 da db
          simp only
          go_wp2
          go_meet
          case rel => exact ⟨rfl, .inr ⟨by decide, _, HP5.out, C5.out, CFN.out⟩⟩
    case rest =>
     obtain ⟨rfl, hmid⟩ := hcut
     go_upto_if 90 with (fail)
     go_cut [] (fun wx => ∃ (F D : Nat → Prop) (P : SfP) (x : Sf.S), Hid (PlSt11 w0 wx p b F D P x s0 hi) ∧ Hid (Sl intE wx C d nl) ∧ Hid (∀ ad, C = some ad → ¬ F ad.block))
     case first =>
      rcases hmid with ⟨her, hw⟩ | ⟨her, hm⟩
      · subst her
        have hw := hw.symm
        subst hw
        have CFN : Hid (∀ ad, C = some ad → ¬ Within F w3.heap.size w4.heap.size ad.block) := fun ad e hf => by
          rcases hf with hf | hf
          · exact CF2.out ad e hf
          · have := CW3.out ad e; omega
        clear HER
        have I4 := Lib.hid (HP3.out.st.ins.touch HP3.out.st.dom T4.out (fun k hd hf => HP3.out.st.off k hf hd))
        have HR4 := Lib.hid (HRP.out w4 I4.out (fun k hk => Nat.lt_of_lt_of_le (HP3.out.st.dlim k hk) T4.out.size) C4.out.rd)
        have B4 := Lib.hid (T4.out.blk HP3.out.box HP3.out.nf)
        have d0 : w4.cell? ⟨b, 0, none⟩ = some (.int .i64 x.s) := B4.out.cell 0
        have d1 : w4.cell? ⟨b, 1, none⟩ = some (.int .i64 x.a) := B4.out.cell 1
        have d2 : w4.cell? ⟨b, 2, none⟩ = some (.int .i64 x.ms) := B4.out.cell 2
        have d3 : w4.cell? ⟨b, 3, none⟩ = some (.int .i64 x.ps) := B4.out.cell 3
        have d4 : w4.cell? ⟨b, 4, none⟩ = some (.int .i64 x.pa) := B4.out.cell 4
        have d5 : w4.cell? ⟨b, 5, none⟩ = some (.int .i64 x.units) := B4.out.cell 5
        have d6 : w4.cell? ⟨b, 6, none⟩ = some (.int .i64 x.polls) := B4.out.cell 6
        have d7 : w4.cell? ⟨b, 7, none⟩ = some (.int .i64 (x.most : Int)) := B4.out.cell 7
        have d8 : w4.cell? ⟨b, 8, none⟩ = some (.slice P.W x.wait.length P.cw) := B4.out.cell 8
        have d9 : w4.cell? ⟨b, 9, none⟩ = some (.slice P.K x.kept.length P.ck) := B4.out.cell 9
        have da : w4.cell? ⟨b, 10, none⟩ = some (.slice P.L x.last.length P.cl) := B4.out.cell 10
        have db : w4.cell? ⟨b, 11, none⟩ = some (.slice P.G x.again.length P.cg) := B4.out.cell 11
        clear HRP I4
        go_wp2_with fail
        refine HR4.out.mono ?_
        rintro e w5' ⟨V, rfl, ho⟩
        obtain ⟨Q, rfl, i5, q5, f5⟩ := ho.open_
        have HW := Lib.hid (HP3.out.went S4.out T4.out i5 q5 f5 HOY.out)
        have B5 := Lib.hid (f5.blk B4.out (fun h => h))
        have C5 : Hid (Sl intE w5' C d nl) := C4.out.touch f5 (fun _ _ h => h)
        have CB : Hid (∀ W, Touch (· = b) w5' W → Sl intE W C d nl) := fun W ht => C5.out.touch ht (C5.out.blk_ne B5.out (by decide))
        clear ho i5 q5 f5 HR4 d0 d1 d2 d3 d4 d5 d6 d7 d8 d9 da db
        have d0 : w5'.cell? ⟨b, 0, none⟩ = some (.int .i64 x.s) := B5.out.cell 0
        have d1 : w5'.cell? ⟨b, 1, none⟩ = some (.int .i64 x.a) := B5.out.cell 1
        have d2 : w5'.cell? ⟨b, 2, none⟩ = some (.int .i64 x.ms) := B5.out.cell 2
        have d3 : w5'.cell? ⟨b, 3, none⟩ = some (.int .i64 x.ps) := B5.out.cell 3
        have d4 : w5'.cell? ⟨b, 4, none⟩ = some (.int .i64 x.pa) := B5.out.cell 4
        have d5 : w5'.cell? ⟨b, 5, none⟩ = some (.int .i64 x.units) := B5.out.cell 5
        have d6 : w5'.cell? ⟨b, 6, none⟩ = some (.int .i64 x.polls) := B5.out.cell 6
        have d7 : w5'.cell? ⟨b, 7, none⟩ = some (.int .i64 (x.most : Int)) := B5.out.cell 7
        have d8 : w5'.cell? ⟨b, 8, none⟩ = some (.slice P.W x.wait.length P.cw) := B5.out.cell 8
        have d9 : w5'.cell? ⟨b, 9, none⟩ = some (.slice P.K x.kept.length P.ck) := B5.out.cell 9
        have da : w5'.cell? ⟨b, 10, none⟩ = some (.slice P.L x.last.length P.cl) := B5.out.cell 10
        have db : w5'.cell? ⟨b, 11, none⟩ = some (.slice P.G x.again.length P.cg) := B5.out.cell 11
        have fz := fun i => B5.out.frozen i
        clear B4 B5 S4 T4 HP3 HOY C4 C5
        unfold sfV
        simp only
        go_wp2
        go_meet
        case rel => exact ⟨_, _, Q, y, HW, CB.out _ (Touch.st12 (S := (· = b)) (Touch.refl _ _) rfl), CFN⟩
      · obtain ⟨F', h1, h2, h3⟩ := hm.out
        have H1 := Lib.hid h1
        have H2 := Lib.hid h2
        have H3 := Lib.hid h3
        have her2 : (er == 0) = false := by simpa using her
        clear h1 h2 h3 hm her HRP HP3 S4 T4 HER HOY C4
        go_wp2
        go_meet
        case rel => exact ⟨F', D, P, x, H1, H2, H3⟩
     case rest =>
      clear hmid HP3 HOK CF2 HER HOY HRP S4 T4 C4 CW3
      obtain ⟨F, D, P, x, HP3', C3', CF2⟩ := hcut
      have HOK := Lib.hid HP3'.out.st.ok
      go_wp2_with fail
      refine (HO1.out _).mono ?_
      rintro e w6 ⟨rfl, h6⟩
      have h6 := h6.symm
      subst h6
      simp only
      go_wp2_with fail
      refine (HO2.out _).mono ?_
      rintro e w6 ⟨rfl, h6⟩
      have h6 := h6.symm
      subst h6
      simp only
      go_wp2_with fail
      refine (HOWN.out _ C3'.out).mono ?_
      rintro e w3 ⟨B3, d3, rfl, m3⟩
      have HP3 := Lib.hid (HP3'.out.old m3.fresh)
      have C3 : Hid (Sl intE w3 C d nl) := C3'.out.touch m3.fresh (fun _ _ h => h)
      have HST := Lib.hid (sustat_any p F x s0 hi HOK.out nr nm B3 d3 nl w3 HP3.out.st.send m3.sl.rd (by omega) HNB.out.2.1)
      have HER := Lib.hid (fun h => Sf.ustat_err (x := x) (r := nr) (mr := nm) (l := nl) h)
      have HOY := Lib.hid (HOK.out.ustat nr nm nl)
      have HRP : Hid (∀ W, SfIn W P x → (∀ k, D k → k < W.heap.size) → Rd intE W C d nl → Calls Tryz.prog 18 #[sfV x P, .bool false, .int .i64 nr, .int .i64 nm, .int .i64 np, .slice C nl.length d] W (SfRepPost W D (Sf.ustat x nr nm nl))) := fun W h1 h2 h3 => sfrep_false P D x nr nm np C d nl W h1 HP3.out.st.dom h2 HOK.out h3 (by omega)
      clear m3 HP3' C3'
      generalize Sf.ustat x nr nm nl = z at *
      obtain ⟨y, n, er⟩ := z
      unfold StatPost at HST
      unfold SfRepPost sfV at HRP
      simp only at HST HER HOY HRP
      simp only
      go_wp2_with fail
      refine HST.out.mono ?_
      rintro e w4 ⟨rfl, s4, t4⟩
      have S4 := Lib.hid s4
      have T4 := Lib.hid t4
      have C4 : Hid (Sl intE w4 C d nl) := C3.out.touch t4 (fun ad e h => CF2.out ad e h)
      clear s4 t4 HST C3
      simp only
      go_upto_region 17 with (fail)
      go_cut [129] (fun s wx => s = .bool false ∧ ((er = 0 ∧ wx = w4) ∨ (er ≠ 0 ∧ Hid (∃ F' : Nat → Prop, PlSt11 w0 wx p b F' D P x s0 hi))))
      case first =>
        by_cases her : er = 0
        · subst her
          clear HER
          go_wp2
          go_meet
          case rel => exact ⟨by first | rfl | trivial, .inl ⟨by first | rfl | trivial, by first | rfl | trivial⟩⟩
        · obtain ⟨h1, h2, h3⟩ := HER.out her
          subst h1 h2 h3
          have HPS := Lib.hid (HP3.out.same S4.out T4.out)
          have HIS := Lib.hid (is11_any p _ P y s0 hi HPS.out.st.ok w4 HPS.out.st.send HPS.out.st.ins)
          unfold sfV at HIS
          obtain ⟨d0, d1, d2, d3', d4, d5, d6, d7, d8, d9, da, db⟩ := HPS.out.cells
          clear HRP HP3 S4 T4 HER HOY
          go_wp2_with fail
          refine HIS.out.mono ?_
          rintro e w5' ⟨rfl, f5⟩
          have HP5 := Lib.hid (HPS.out.old f5)
          clear f5 HIS HPS C4 d0 d1 d2 d3' d4 d5 d6 d7 d8 d9 da db
          simp only
          go_wp2
          go_meet
          case rel => exact ⟨rfl, .inr ⟨by decide, _, HP5.out⟩⟩
      case rest =>
       obtain ⟨rfl, hmid⟩ := hcut
       go_upto_if 129 with (fail)
       go_cut [] (fun wx => ∃ (F D : Nat → Prop) (P : SfP) (x : Sf.S), Hid (PlSt11 w0 wx p b F D P x s0 hi))
       case first =>
        rcases hmid with ⟨her, hw⟩ | ⟨her, hm⟩
        · subst her
          have hw := hw.symm
          subst hw
          clear HER
          have I4 := Lib.hid (HP3.out.st.ins.touch HP3.out.st.dom T4.out (fun k hd hf => HP3.out.st.off k hf hd))
          have HR4 := Lib.hid (HRP.out w4 I4.out (fun k hk => Nat.lt_of_lt_of_le (HP3.out.st.dlim k hk) T4.out.size) C4.out.rd)
          have B4 := Lib.hid (T4.out.blk HP3.out.box HP3.out.nf)
          have d0 : w4.cell? ⟨b, 0, none⟩ = some (.int .i64 x.s) := B4.out.cell 0
          have d1 : w4.cell? ⟨b, 1, none⟩ = some (.int .i64 x.a) := B4.out.cell 1
          have d2 : w4.cell? ⟨b, 2, none⟩ = some (.int .i64 x.ms) := B4.out.cell 2
          have d3 : w4.cell? ⟨b, 3, none⟩ = some (.int .i64 x.ps) := B4.out.cell 3
          have d4 : w4.cell? ⟨b, 4, none⟩ = some (.int .i64 x.pa) := B4.out.cell 4
          have d5 : w4.cell? ⟨b, 5, none⟩ = some (.int .i64 x.units) := B4.out.cell 5
          have d6 : w4.cell? ⟨b, 6, none⟩ = some (.int .i64 x.polls) := B4.out.cell 6
          have d7 : w4.cell? ⟨b, 7, none⟩ = some (.int .i64 (x.most : Int)) := B4.out.cell 7
          have d8 : w4.cell? ⟨b, 8, none⟩ = some (.slice P.W x.wait.length P.cw) := B4.out.cell 8
          have d9 : w4.cell? ⟨b, 9, none⟩ = some (.slice P.K x.kept.length P.ck) := B4.out.cell 9
          have da : w4.cell? ⟨b, 10, none⟩ = some (.slice P.L x.last.length P.cl) := B4.out.cell 10
          have db : w4.cell? ⟨b, 11, none⟩ = some (.slice P.G x.again.length P.cg) := B4.out.cell 11
          clear HRP I4
          go_wp2_with fail
          refine HR4.out.mono ?_
          rintro e w5' ⟨V, rfl, ho⟩
          obtain ⟨Q, rfl, i5, q5, f5⟩ := ho.open_
          have HW := Lib.hid (HP3.out.went S4.out T4.out i5 q5 f5 HOY.out)
          have B5 := Lib.hid (f5.blk B4.out (fun h => h))
          clear ho i5 q5 f5 HR4 d0 d1 d2 d3 d4 d5 d6 d7 d8 d9 da db
          have d0 : w5'.cell? ⟨b, 0, none⟩ = some (.int .i64 x.s) := B5.out.cell 0
          have d1 : w5'.cell? ⟨b, 1, none⟩ = some (.int .i64 x.a) := B5.out.cell 1
          have d2 : w5'.cell? ⟨b, 2, none⟩ = some (.int .i64 x.ms) := B5.out.cell 2
          have d3 : w5'.cell? ⟨b, 3, none⟩ = some (.int .i64 x.ps) := B5.out.cell 3
          have d4 : w5'.cell? ⟨b, 4, none⟩ = some (.int .i64 x.pa) := B5.out.cell 4
          have d5 : w5'.cell? ⟨b, 5, none⟩ = some (.int .i64 x.units) := B5.out.cell 5
          have d6 : w5'.cell? ⟨b, 6, none⟩ = some (.int .i64 x.polls) := B5.out.cell 6
          have d7 : w5'.cell? ⟨b, 7, none⟩ = some (.int .i64 (x.most : Int)) := B5.out.cell 7
          have d8 : w5'.cell? ⟨b, 8, none⟩ = some (.slice P.W x.wait.length P.cw) := B5.out.cell 8
          have d9 : w5'.cell? ⟨b, 9, none⟩ = some (.slice P.K x.kept.length P.ck) := B5.out.cell 9
          have da : w5'.cell? ⟨b, 10, none⟩ = some (.slice P.L x.last.length P.cl) := B5.out.cell 10
          have db : w5'.cell? ⟨b, 11, none⟩ = some (.slice P.G x.again.length P.cg) := B5.out.cell 11
          have fz := fun i => B5.out.frozen i
          clear B4 B5 S4 T4 HP3 HOY C4
          unfold sfV
          simp only
          go_wp2
          go_meet
          case rel => exact ⟨_, _, Q, y, HW⟩
        · obtain ⟨F', h1⟩ := hm.out
          have H1 := Lib.hid h1
          have her2 : (er == 0) = false := by simpa using her
          clear h1 hm her HRP HP3 S4 T4 HER HOY C4
          go_wp2
          go_meet
          case rel => exact ⟨F', D, P, x, H1⟩
       case rest =>
         clear hmid HP3 HOK CF2 HER HOY HRP S4 T4 C4

         obtain ⟨F, D, P, x, HPL⟩ := hcut
         clear HO1 HO2 HO3 HOWN HNB hnl
         go_wp2_with fail
         go_loopw [142] (fun s wr => ∃ (k : Nat) (F D : Nat → Prop) (P : SfP) (x : Sf.S), k ≤ 6 ∧ s = .int .i64 k ∧ Hid (PlSt11 w0 wr p b F D P x s0 hi)) (fun s _ => 6 - (intOf s).toNat)
         case atStart => exact ⟨0, F, D, P, x, by omega, rfl, HPL⟩
         case round =>
           clear HPL
           clear F D P x
           obtain ⟨k, F, D, P, x, hk, rfl, HP⟩ := hrel
           by_cases hk6 : k < 6
           · have hk1 : (k : Int) < 6 := by omega
             have HFO := Lib.hid (is11_any p F P x s0 hi HP.out.st.ok wr HP.out.st.send HP.out.st.ins)
             clear HFO
             obtain ⟨v, hv⟩ : ∃ v : ByteArray, ({ data := #[109] } : ByteArray) = v := ⟨_, rfl⟩
             obtain ⟨y, hy⟩ : ∃ y, Sf.put x v = y := ⟨_, rfl⟩
             have HOY : Hid (Sf.Ok y s0 hi) := by rw [← hy]; exact HP.out.st.ok.put v
             have HPU := Lib.hid (sput_any p F (Sf.prog x) v wr HP.out.st.send)
             rw [Sf.prog_put, hy] at HPU
             have HPU : Hid (Calls Tryz.prog 20 #[.pointer (some ⟨p, 0, none⟩), .string v] wr fun e w' => e = .returned (.int .i64 (if x.wait.length < x.most then 0 else 7)) ∧ SendAt w' p (Grown F wr) (Sf.prog y) ∧ Touch F wr w') := HPU
             have HFP : Hid (∀ W, SfIn W P x → (∀ k, D k → k < W.heap.size) → Calls Tryz.prog 21 #[sfV x P, .string v] W fun e w' => ∃ V, e = .returned (.tuple #[V, .bool (decide (x.wait.length < x.most))]) ∧ SfOut W D y V w') := fun W h1 h2 => by
               have := sfput_any P D x v W h1 HP.out.st.dom h2 HP.out.st.ok
               rwa [hy] at this
             clear hy
             subst hv
             unfold sfV at HFP
             rcases Decidable.em (x.wait.length < x.most) with hq | hq
             all_goals
               first | rw [if_pos hq, ] at HPU | rw [if_neg hq] at HPU
               first | rw [decide_eq_true hq] at HFP | rw [decide_eq_false hq] at HFP
               clear hq
               go_wp2_with fail
               refine HPU.out.mono ?_
               rintro e w1' ⟨rfl, s1, t1⟩
               have S1 := Lib.hid s1
               have T1 := Lib.hid t1
               have I1 := Lib.hid (HP.out.st.ins.touch HP.out.st.dom t1 (fun k hd hf => HP.out.st.off k hf hd))
               have HF1 := Lib.hid (HFP.out w1' I1.out (fun k hk => Nat.lt_of_lt_of_le (HP.out.st.dlim k hk) t1.size))
               have B1 := Lib.hid (t1.blk HP.out.box HP.out.nf)
               clear s1 t1 HPU HFP I1
               have d0 : w1'.cell? ⟨b, 0, none⟩ = some (.int .i64 x.s) := B1.out.cell 0
               have d1 : w1'.cell? ⟨b, 1, none⟩ = some (.int .i64 x.a) := B1.out.cell 1
               have d2 : w1'.cell? ⟨b, 2, none⟩ = some (.int .i64 x.ms) := B1.out.cell 2
               have d3 : w1'.cell? ⟨b, 3, none⟩ = some (.int .i64 x.ps) := B1.out.cell 3
               have d4 : w1'.cell? ⟨b, 4, none⟩ = some (.int .i64 x.pa) := B1.out.cell 4
               have d5 : w1'.cell? ⟨b, 5, none⟩ = some (.int .i64 x.units) := B1.out.cell 5
               have d6 : w1'.cell? ⟨b, 6, none⟩ = some (.int .i64 x.polls) := B1.out.cell 6
               have d7 : w1'.cell? ⟨b, 7, none⟩ = some (.int .i64 (x.most : Int)) := B1.out.cell 7
               have d8 : w1'.cell? ⟨b, 8, none⟩ = some (.slice P.W x.wait.length P.cw) := B1.out.cell 8
               have d9 : w1'.cell? ⟨b, 9, none⟩ = some (.slice P.K x.kept.length P.ck) := B1.out.cell 9
               have da : w1'.cell? ⟨b, 10, none⟩ = some (.slice P.L x.last.length P.cl) := B1.out.cell 10
               have db : w1'.cell? ⟨b, 11, none⟩ = some (.slice P.G x.again.length P.cg) := B1.out.cell 11
               simp only
               go_wp2_with fail
               refine HF1.out.mono ?_
               rintro e w2' ⟨V, rfl, ho⟩
               obtain ⟨Q, rfl, i2, q2, f2⟩ := ho.open_
               have B2 := Lib.hid (f2.blk B1.out (fun h => h))
               clear d0 d1 d2 d3 d4 d5 d6 d7 d8 d9 da db HF1 B1
               unfold sfV
               simp only
               have f3 : Fresh w2' (w2'.alloc (.cells #[.int .i64 y.s, .int .i64 y.a, .int .i64 y.ms, .int .i64 y.ps, .int .i64 y.pa, .int .i64 y.units, .int .i64 y.polls, .int .i64 (y.most : Int), .slice Q.W y.wait.length Q.cw, .slice Q.K y.kept.length Q.ck, .slice Q.L y.last.length Q.cl, .slice Q.G y.again.length Q.cg] 33)) := (Touch.refl _ _).alloc _
               have HW := Lib.hid (HP.out.went S1.out T1.out (i2.old f3) (q2.mono fun k hk => hk.elim .inl fun h => .inr ⟨h.1, Nat.lt_of_lt_of_le h.2 f3.size⟩) (f2.trans f3 (fun _ _ h => h)) HOY.out)
               have BY : Hid (Blk (w2'.alloc (.cells #[.int .i64 y.s, .int .i64 y.a, .int .i64 y.ms, .int .i64 y.ps, .int .i64 y.pa, .int .i64 y.units, .int .i64 y.polls, .int .i64 (y.most : Int), .slice Q.W y.wait.length Q.cw, .slice Q.K y.kept.length Q.ck, .slice Q.L y.last.length Q.cl, .slice Q.G y.again.length Q.cg] 33)) w2'.heap.size 33 (sfCells y Q)) := Blk.new w2' _ (sfCells y Q)
               have BX := Lib.hid (f3.blk B2.out (fun h => h))
               clear ho i2 q2 f2 f3 B2 S1 T1 HP HOY
               go_upto_region 25 with (fail)
               generalize w2'.alloc (.cells #[.int .i64 y.s, .int .i64 y.a, .int .i64 y.ms, .int .i64 y.ps, .int .i64 y.pa, .int .i64 y.units, .int .i64 y.polls, .int .i64 (y.most : Int), .slice Q.W y.wait.length Q.cw, .slice Q.K y.kept.length Q.ck, .slice Q.L y.last.length Q.cl, .slice Q.G y.again.length Q.cg] 33) = w3' at *
               have d0 : w3'.cell? ⟨b, 0, none⟩ = some (.int .i64 x.s) := BX.out.cell 0
               have d1 : w3'.cell? ⟨b, 1, none⟩ = some (.int .i64 x.a) := BX.out.cell 1
               have d2 : w3'.cell? ⟨b, 2, none⟩ = some (.int .i64 x.ms) := BX.out.cell 2
               have d3 : w3'.cell? ⟨b, 3, none⟩ = some (.int .i64 x.ps) := BX.out.cell 3
               have d4 : w3'.cell? ⟨b, 4, none⟩ = some (.int .i64 x.pa) := BX.out.cell 4
               have d5 : w3'.cell? ⟨b, 5, none⟩ = some (.int .i64 x.units) := BX.out.cell 5
               have d6 : w3'.cell? ⟨b, 6, none⟩ = some (.int .i64 x.polls) := BX.out.cell 6
               have d7 : w3'.cell? ⟨b, 7, none⟩ = some (.int .i64 (x.most : Int)) := BX.out.cell 7
               have d8 : w3'.cell? ⟨b, 8, none⟩ = some (.slice P.W x.wait.length P.cw) := BX.out.cell 8
               have d9 : w3'.cell? ⟨b, 9, none⟩ = some (.slice P.K x.kept.length P.ck) := BX.out.cell 9
               have da : w3'.cell? ⟨b, 10, none⟩ = some (.slice P.L x.last.length P.cl) := BX.out.cell 10
               have db : w3'.cell? ⟨b, 11, none⟩ = some (.slice P.G x.again.length P.cg) := BX.out.cell 11
               have c0 : w3'.cell? ⟨w2'.heap.size, 0, none⟩ = some (.int .i64 y.s) := BY.out.cell 0
               have c1 : w3'.cell? ⟨w2'.heap.size, 1, none⟩ = some (.int .i64 y.a) := BY.out.cell 1
               have c2 : w3'.cell? ⟨w2'.heap.size, 2, none⟩ = some (.int .i64 y.ms) := BY.out.cell 2
               have c3 : w3'.cell? ⟨w2'.heap.size, 3, none⟩ = some (.int .i64 y.ps) := BY.out.cell 3
               have c4 : w3'.cell? ⟨w2'.heap.size, 4, none⟩ = some (.int .i64 y.pa) := BY.out.cell 4
               have c5 : w3'.cell? ⟨w2'.heap.size, 5, none⟩ = some (.int .i64 y.units) := BY.out.cell 5
               have c6 : w3'.cell? ⟨w2'.heap.size, 6, none⟩ = some (.int .i64 y.polls) := BY.out.cell 6
               have c7 : w3'.cell? ⟨w2'.heap.size, 7, none⟩ = some (.int .i64 (y.most : Int)) := BY.out.cell 7
               have c8 : w3'.cell? ⟨w2'.heap.size, 8, none⟩ = some (.slice Q.W y.wait.length Q.cw) := BY.out.cell 8
               have c9 : w3'.cell? ⟨w2'.heap.size, 9, none⟩ = some (.slice Q.K y.kept.length Q.ck) := BY.out.cell 9
               have ca : w3'.cell? ⟨w2'.heap.size, 10, none⟩ = some (.slice Q.L y.last.length Q.cl) := BY.out.cell 10
               have cb : w3'.cell? ⟨w2'.heap.size, 11, none⟩ = some (.slice Q.G y.again.length Q.cg) := BY.out.cell 11
               have fz := fun i => BX.out.frozen i
               clear BX BY
               go_wp2
               go_roundw
               case rel => exact ⟨k + 1, _, _, Q, y, by omega, by go_num, HW⟩
               case measure => simp [intOf]; omega
           · obtain rfl : k = 6 := by omega
             have HIS := Lib.hid (is11_any p F P x s0 hi HP.out.st.ok wr HP.out.st.send HP.out.st.ins)
             unfold sfV at HIS
             obtain ⟨d0, d1, d2, d3', d4, d5, d6, d7, d8, d9, da, db⟩ := HP.out.cells
             go_wp2_with fail
             refine HIS.out.mono ?_
             rintro e w9 ⟨rfl, f9⟩
             have FF : Hid (Fresh w w9) := FW.out.trans (HP.out.fresh.trans f9 (fun _ _ h => h)) (fun _ _ h => h)
             clear f9 HIS HP d0 d1 d2 d3' d4 d5 d6 d7 d8 d9 da db
             simp only
             go_wp2
             go_ret
             exact ⟨rfl, FF.out.below (Nat.le_refl _) (fun _ _ h => h)⟩

theorem open_act11 {H : Type} {enc : TypeId × Value → H} {W : World} {base : Nat} {v : Value} {d : DataW H} {p : List MemPlace}
    (hv : Value.okWide Tryz.prog W .any base 38 v) (h : DataW.Trod enc Tryz.prog W 0 (fun _ => true) true 38 v d p) : ∃ b : Act11b, v = act11V b.a b.A b.c ∧ b.Good W := by
  obtain ⟨cs, rfl, hsz⟩ := okWide_struct Tryz.underlying38 hv
  obtain ⟨fuel, hf⟩ := h
  obtain ⟨b, e, g⟩ := dec_act11 fuel _ _ hf
  refine ⟨b, ?_, g⟩
  have e : cs.toList = act11E.enc b := by simpa [Value.cells] using e
  have e : cs.toList = act11C b.a b.A b.c := e
  show Value.agg cs = Value.agg (act11C b.a b.A b.c).toArray
  rw [← e]
set_option maxRecDepth 10000 in
theorem sendTells.walk (start : Int) (v1 v2 : Value) (w : World) (_h0 : (Lit.int .i64 start).wf = true) {H : Type} {enc : TypeId × Value → H} {b1 b2 : Nat} {d1 d2 : DataW H} {p1 p2 : List MemPlace} (hv1 : Value.okWide Tryz.prog w .any b1 22 v1) (k1 : DataW.Trod enc Tryz.prog w 0 (fun _ => true) true 22 v1 d1 p1) (hv2 : Value.okWide Tryz.prog w .any b2 38 v2) (k2 : DataW.Trod enc Tryz.prog w 0 (fun _ => true) true 38 v2 d2 p2) :
    Calls Tryz.prog 5 #[.int .i64 start, v1, v2] w fun e w' => e = .returned (.bool true) ∧ Below w.heap.size w w' := by
  obtain ⟨A, c, l, rfl, hr, hg⟩ := open_rd_act11 hv1 k1
  obtain ⟨b, rfl, gb⟩ := open_act11 hv2 k2
  exact sendTells.core start A c l b w hr hg gb
end Go.Proofs.YtajdnllkkekmnaaGreat

/-
  SendAgain: what goes again was named by a report that was accepted behind its last going out, once for each.
-/
import Derived.Test.YtajdnllkkekmnaaGreatAgP
import Derived.Deep.RegionLaw
namespace Go.Proofs.YtajdnllkkekmnaaGreat
open Go.RowKit Go.ChangeShapes Go.WideShapes Go.ChangeAt
set_option maxRecDepth 20000
set_option linter.constructorNameAsVariable false

theorem sbtw_any (a n s : Int) (w : World) {q : Bool} (hq : decide ((n - a) % 16777216 < (s - a) % 16777216) = q) : Calls Tryz.prog 24 #[.int .u32 a, .int .u32 n, .int .u32 s] w fun e w' => e = .returned (.bool q) ∧ w' = w := by
  have H1 := Lib.hid (to_any a n)
  have H2 := Lib.hid (to_any a s)
  generalize (n - a) % 16777216 = u at *
  generalize (s - a) % 16777216 = v at *
  subst hq
  go_enter Tryz.func24, Tryz.ntmps24
  go_wp2_with fail
  refine (H1.out w).mono ?_
  rintro e w1 ⟨rfl, rfl⟩
  simp only
  go_wp2_with fail
  refine (H2.out w1).mono ?_
  rintro e w2 ⟨rfl, rfl⟩
  simp only
  go_wp2
  go_ret
  exact ⟨rfl, rfl⟩
theorem zeroIntA (w : World) : (zeroValue 3).run Tryz.prog w = .ok (.int .i64 0) w := by kernel_rfl

set_option maxHeartbeats 16000000 in
set_option maxRecDepth 8000 in
theorem sendAgain.core (start : Int) (A0 : Option Addr) (c0' : Nat) (l : List Act11b) (w : World) (h : Rd act11E w A0 c0' l) (hl : ∀ a ∈ l, a.Good w) :
    Calls Tryz.prog 6 #[.int .i64 start, .slice A0 l.length c0'] w fun e w' => e = .returned (.bool true) ∧ Below w.heap.size w w' := by
  have hlc := h.1
  have hcm := h.2.1
  unfold maxLen at hcm
  have HR := Lib.hid h
  have HS := Lib.hid hl
  clear h hl
  have HSO := Lib.hid (sof_any start)
  have HNW : Hid (∀ W, Fresh w W → Calls Tryz.prog 8 #[.int .u32 (start % 16777216), .int .i64 30, .int .i64 5] W fun e w' => ∃ p, e = .returned (.pointer (some ⟨p, 0, none⟩)) ∧ OwnSend w w' p (Sf.prog (Sf.new start 30 5))) := fun W hf => onew (start % 16777216) 30 5 hf (Sd.new_mod start 30 5)
  have HRN := Lib.hid (fun W => sfnew_any start 30 5 W)
  have HPN := Lib.hid (fun (W : World) (p : Nat) (h : OwnSend w W p (Sf.prog (Sf.new start 30 5))) => PlSt11.new h)
  have HE0 : Hid ((Sf.new start 30 5).again = []) := rfl
  unfold sfV at HRN
  generalize Sf.new start 30 5 = x0 at *
  have hsn : 0 ≤ start % 16777216 ∧ start % 16777216 < 16777216 := by omega
  generalize start % 16777216 = s0 at *
  have hmm := @run_makeMap Tryz.prog
  go_enter Tryz.func6, Tryz.ntmps6
  go_wp2_with fail
  refine (awake11 w).mono ?_
  rintro e w1 ⟨rfl, f1⟩
  have F1 := Lib.hid f1
  clear f1
  simp only
  go_wp2_with fail
  refine (HSO.out w1).mono ?_
  rintro e w2 ⟨rfl, rfl⟩
  simp only
  go_wp2_with fail
  refine (HNW.out w2 F1.out).mono ?_
  rintro e w3 ⟨p, rfl, o3⟩
  have O3 := Lib.hid o3
  clear o3 HNW
  simp only
  go_wp2_with fail
  refine (HRN.out w3).mono ?_
  rintro e w4 ⟨rfl, f4⟩
  have O4 := Lib.hid (O3.out.old f4)
  clear f4 O3 HRN
  simp only
  have PL0 := Lib.hid (HPN.out w4 p O4.out)
  clear O4 HPN F1
  go_upto_block 0 with (fail)
  have PL := Lib.hid (PL0.out.old ((Touch.refl (fun _ => False) _).alloc (.map #[] 0)))
  have MP : Hid (MapAt numK (World.alloc (World.alloc w4 (.cells #[.int .i64 x0.s, .int .i64 x0.a, .int .i64 x0.ms, .int .i64 x0.ps, .int .i64 x0.pa, .int .i64 x0.units, .int .i64 x0.polls, .int .i64 (x0.most : Int), .slice SfP.none.W x0.wait.length SfP.none.cw, .slice SfP.none.K x0.kept.length SfP.none.ck, .slice SfP.none.L x0.last.length SfP.none.cl, .slice SfP.none.G x0.again.length SfP.none.cg] 33)) (.map #[] 0)) (World.alloc w4 (.cells #[.int .i64 x0.s, .int .i64 x0.a, .int .i64 x0.ms, .int .i64 x0.ps, .int .i64 x0.pa, .int .i64 x0.units, .int .i64 x0.polls, .int .i64 (x0.most : Int), .slice SfP.none.W x0.wait.length SfP.none.cw, .slice SfP.none.K x0.kept.length SfP.none.ck, .slice SfP.none.L x0.last.length SfP.none.cl, .slice SfP.none.G x0.again.length SfP.none.cg] 33)).heap.size ([] : MList Int)) := MapAt.made numK _
  have hNF : ¬ (fun k => w.heap.size ≤ k ∧ k < w4.heap.size) (World.alloc w4 (.cells #[.int .i64 x0.s, .int .i64 x0.a, .int .i64 x0.ms, .int .i64 x0.ps, .int .i64 x0.pa, .int .i64 x0.units, .int .i64 x0.polls, .int .i64 (x0.most : Int), .slice SfP.none.W x0.wait.length SfP.none.cw, .slice SfP.none.K x0.kept.length SfP.none.ck, .slice SfP.none.L x0.last.length SfP.none.cl, .slice SfP.none.G x0.again.length SfP.none.cg] 33)).heap.size := fun hf => by
    have := hf.2
    simp at this
    omega
  have hNB : w.heap.size ≤ (World.alloc w4 (.cells #[.int .i64 x0.s, .int .i64 x0.a, .int .i64 x0.ms, .int .i64 x0.ps, .int .i64 x0.pa, .int .i64 x0.units, .int .i64 x0.polls, .int .i64 (x0.most : Int), .slice SfP.none.W x0.wait.length SfP.none.cw, .slice SfP.none.K x0.kept.length SfP.none.ck, .slice SfP.none.L x0.last.length SfP.none.cl, .slice SfP.none.G x0.again.length SfP.none.cg] 33)).heap.size := by
    have := PL0.out.fresh.size
    exact this
  clear PL0
  have hnbe : (World.alloc w4 (.cells #[.int .i64 x0.s, .int .i64 x0.a, .int .i64 x0.ms, .int .i64 x0.ps, .int .i64 x0.pa, .int .i64 x0.units, .int .i64 x0.polls, .int .i64 (x0.most : Int), .slice SfP.none.W x0.wait.length SfP.none.cw, .slice SfP.none.K x0.kept.length SfP.none.ck, .slice SfP.none.L x0.last.length SfP.none.cl, .slice SfP.none.G x0.again.length SfP.none.cg] 33)).heap.size = w4.heap.size + 1 := by simp
  rw [hnbe] at MP hNF hNB
  clear hnbe
  generalize w4.heap.size + 1 = nb at *
  generalize World.alloc (World.alloc w4 _) _ = w5 at *
  obtain ⟨b, hb⟩ : ∃ b, b = w4.heap.size := ⟨_, rfl⟩
  rw [← hb] at PL hNF ⊢
  generalize (fun k => w.heap.size ≤ k ∧ k < b) = F0 at *
  clear hb
  have HN0 : Hid (∀ n ∈ x0.again, Mkd ([] : MList Int) (n % 16777216)) := by
    rw [HE0.out]
    exact fun n hn => (by cases hn)
  have HNF := Lib.hid hNF
  clear HE0 hNF hmm
  go_wp2_with fail
  go_loopw [8] (fun i wr => ∃ (k : Nat) (F D : Nat → Prop) (P : SfP) (x : Sf.S) (hi : Int) (m : MList Int), k ≤ l.length ∧ k ≤ 80 ∧ i = .int .i64 k ∧ Hid (PlSt11 w wr p b F D P x s0 hi) ∧ hi = s0 + 4 * (k : Int) ∧ Hid (MapAt numK wr nb m) ∧ Hid (¬ F nb) ∧ Hid (∀ n ∈ x.again, Mkd m (n % 16777216))) (fun i _ => l.length - (intOf i).toNat)
  case atStart => exact ⟨0, F0, _, _, _, s0, [], by omega, by omega, rfl, PL, by omega, MP, HNF, HN0⟩
  case round =>
    clear PL MP HNF HN0
    obtain ⟨k, F, D, P, x, hi, m, hk, hk80, rfl, HP, hhi, HM, HNF, HNM⟩ := hrel
    have hcont : (k < l.length ∧ k < 80) ∨ ¬ (k < l.length ∧ k < 80) := Decidable.em _
    rcases hcont with ⟨hk1, hk2⟩ | hstop
    · have hk1' : (k : Int) < (l.length : Int) := by omega
      have hdk1 : decide ((k : Int) < (l.length : Int)) = true := decide_eq_true hk1'
      have hk2' : (k : Int) < 80 := by omega
      have hdk2 : decide ((k : Int) < 80) = true := decide_eq_true hk2'
      have hk0 : (0 : Int) ≤ (k : Int) := by omega
      obtain ⟨z, hz⟩ : ∃ z, l.getD k Act11b.none = z := ⟨_, rfl⟩
      have HG := Lib.hid (Act11b.good_at HS.out (Touch.refl _ w) k hk1 hz)
      obtain ⟨ga, oa, hAe, _, e0, e1, e2, e3, e4, e5, e6⟩ := (HR.out.touch HP.out.fresh (fun _ _ _ h => h)).act11_at k hk1 hz
      rw [hAe]
      have HAE := Lib.hid hAe
      clear hz hAe
      obtain ⟨⟨ak, ar, am, aps, al, araw, aM⟩, zA, zc⟩ := z
      simp only at e0 e1 e2 e3 e4 e5 e6
      have HOK := Lib.hid HP.out.st.ok
      have hlo0 := HOK.out.lo0
      have hhl := HOK.out.hl
      have hab : 0 ≤ x.a ∧ x.a ≤ 100000000 ∧ 0 ≤ x.s ∧ x.s ≤ 100000000 ∧ 0 ≤ x.pa ∧ x.pa ≤ 100000000 := by
        have h1 := HOK.out.lo0; have h2 := HOK.out.la; have h3 := HOK.out.klen; have h4 := HOK.out.shi; have h5 := HOK.out.hl; have h6 := HOK.out.lpa; have h7 := HOK.out.pas; have h8 := HOK.out.phi
        omega
      obtain ⟨y, hy⟩ : ∃ y, Sf.step x ⟨ak, ar, am, aps, al, araw, aM⟩ (cut5 aM) = y := ⟨_, rfl⟩
      have HY := Lib.hid hy
      have HNU : Hid (∀ W, Fresh wr W → Calls Tryz.prog 15 #[act11V ⟨ak, ar, am, aps, al, araw, aM⟩ zA zc, sfV x P] W fun e w' => ∃ C d, e = .returned (.tuple #[.int .i64 (Sf.numR x ⟨ak, ar, am, aps, al, araw, aM⟩), .int .i64 (Sf.numM x ⟨ak, ar, am, aps, al, araw, aM⟩), .int .i64 (Sf.numP x ⟨ak, ar, am, aps, al, araw, aM⟩), .slice C (Sf.numL x ⟨ak, ar, am, aps, al, araw, aM⟩).length d]) ∧ Mine intE W w' C d (Sf.numL x ⟨ak, ar, am, aps, al, araw, aM⟩)) := fun W hf =>
        nums11_any ⟨ak, ar, am, aps, al, araw, aM⟩ zA zc x P W (HG.out.1.touch (HP.out.fresh.trans hf (fun _ _ h => h)) (fun _ _ _ h => h)) HG.out.2.1 hab
      have HLB : Hid (∀ n ∈ Sf.numL x ⟨ak, ar, am, aps, al, araw, aM⟩, 0 ≤ n ∧ n < 16777216) := numL_bd x _
      have HLL : Hid ((Sf.numL x ⟨ak, ar, am, aps, al, araw, aM⟩).length ≤ 12) := numL_len x _
      have HST : Hid (∀ W, PlSt11 w W p b F D P x s0 hi → Calls Tryz.prog 11 #[.pointer (some ⟨p, 0, none⟩), sfV x P, act11V ⟨ak, ar, am, aps, al, araw, aM⟩ zA zc] W (StepPost W p F D y s0 (hi + 4))) := fun W hW => by
        rw [← hy]
        exact step11_any p F D P x ⟨ak, ar, am, aps, al, araw, aM⟩ zA zc W hW.st (HG.out.1.touch hW.fresh (fun _ _ _ h => h)) HG.out.2.1 HG.out.2.2 (by omega)
      have HY1 : Hid (ak = 1 → y = (Sf.next x).1) := fun h => by rw [← hy]; exact Sf.step_1 h
      have HY3 : Hid (ak = 3 → y = (Sf.stat x (Sf.numR x ⟨ak, ar, am, aps, al, araw, aM⟩) (Sf.numM x ⟨ak, ar, am, aps, al, araw, aM⟩) (Sf.numP x ⟨ak, ar, am, aps, al, araw, aM⟩) (Sf.numL x ⟨ak, ar, am, aps, al, araw, aM⟩)).1) := fun h => by rw [← hy]; exact Sf.step_3 h
      have HY4 : Hid (ak = 4 → y = (Sf.ustat x (Sf.numR x ⟨ak, ar, am, aps, al, araw, aM⟩) (Sf.numM x ⟨ak, ar, am, aps, al, araw, aM⟩) (Sf.numL x ⟨ak, ar, am, aps, al, araw, aM⟩)).1) := fun h => by rw [← hy]; exact Sf.step_4 h
      have HYO : Hid (ak ≠ 3 → ak ≠ 4 → ∀ n ∈ y.again, n ∈ x.again) := fun h3 h4 n hn => by
        rw [← hy] at hn
        exact Sf.step_again h3 h4 hn
      clear hy HY HG
      unfold act11V sfV at HNU HST
      generalize Sf.numR x ⟨ak, ar, am, aps, al, araw, aM⟩ = nr at *
      generalize Sf.numM x ⟨ak, ar, am, aps, al, araw, aM⟩ = nm at *
      generalize Sf.numP x ⟨ak, ar, am, aps, al, araw, aM⟩ = np at *
      generalize Sf.numL x ⟨ak, ar, am, aps, al, araw, aM⟩ = nl at *
      simp only at HNU HST
      generalize al.length = aln at *
      have HNL : Hid (nb < wr.heap.size) := HM.out.lt
      have HFL : Hid (∀ k, F k → k < wr.heap.size) := HP.out.st.lim
      have HNBB : Hid (w.heap.size ≤ nb) := hNB
      have F1 : Hid (Fresh wr (wr.alloc (.cells #[.int .i64 ak, .int .i64 ar, .int .i64 am, .int .i64 aps, .slice zA aln zc, .bool araw, .string aM] 38))) := (Touch.refl _ _).alloc _
      have HP1 := Lib.hid (HP.out.old F1.out)
      have HM1 := Lib.hid (HM.out.touch F1.out (fun h => h))
      have BA1 : Hid (Blk (wr.alloc (.cells #[.int .i64 ak, .int .i64 ar, .int .i64 am, .int .i64 aps, .slice zA aln zc, .bool araw, .string aM] 38)) wr.heap.size 38 [.int .i64 ak, .int .i64 ar, .int .i64 am, .int .i64 aps, .slice zA aln zc, .bool araw, .string aM]) := Blk.new wr _ [.int .i64 ak, .int .i64 ar, .int .i64 am, .int .i64 aps, .slice zA aln zc, .bool araw, .string aM]
      go_upto_region 11 with (fail)
      generalize wr.alloc (.cells #[.int .i64 ak, .int .i64 ar, .int .i64 am, .int .i64 aps, .slice zA aln zc, .bool araw, .string aM] 38) = w1 at *
      clear e0 e1 e2 e3 e4 e5 e6
      have a0 : w1.cell? ⟨wr.heap.size, 0, none⟩ = some (.int .i64 ak) := BA1.out.cell 0
      have a1 : w1.cell? ⟨wr.heap.size, 1, none⟩ = some (.int .i64 ar) := BA1.out.cell 1
      have a2 : w1.cell? ⟨wr.heap.size, 2, none⟩ = some (.int .i64 am) := BA1.out.cell 2
      have a3 : w1.cell? ⟨wr.heap.size, 3, none⟩ = some (.int .i64 aps) := BA1.out.cell 3
      have a4 : w1.cell? ⟨wr.heap.size, 4, none⟩ = some (.slice zA aln zc) := BA1.out.cell 4
      have a5 : w1.cell? ⟨wr.heap.size, 5, none⟩ = some (.bool araw) := BA1.out.cell 5
      have a6 : w1.cell? ⟨wr.heap.size, 6, none⟩ = some (.string aM) := BA1.out.cell 6
      obtain ⟨d0, d1, d2, d3, d4, d5, d6, d7, d8, d9, da, db⟩ := HP1.out.cells
      go_wp2_with fail
      refine (HNU.out w1 F1.out).mono ?_
      rintro e w2 ⟨C, d, rfl, m2⟩
      have HP2 := Lib.hid (HP1.out.old m2.fresh)
      have HM2 := Lib.hid (HM1.out.touch m2.fresh (fun h => h))
      have BA2 := Lib.hid (m2.fresh.blk BA1.out (fun h => h))
      have C2 : Hid (Sl intE w2 C d nl) := m2.sl
      have HCB : Hid (∀ ad, C = some ad → wr.heap.size ≤ ad.block) := fun ad e => Nat.le_trans F1.out.size (m2.base ad e)
      have hnl : nl.length ≤ 12 := HLL.out
      clear m2 HNU HP1 HM1 BA1 a0 a1 a2 a3 a4 a5 a6 d0 d1 d2 d3 d4 d5 d6 d7 d8 d9 da db F1 HP HM
      have a0 : w2.cell? ⟨wr.heap.size, 0, none⟩ = some (.int .i64 ak) := BA2.out.cell 0
      simp only
      go_upto_if 60 with (fail)
      clear a0
      go_cut [] (fun wx => ∃ m' : MList Int, Hid (MapAt numK wx nb m') ∧ Hid (Touch (· = nb) w2 wx) ∧ Hid (∀ n ∈ x.again, n ∈ y.again → Mkd m' (n % 16777216)))
      case first =>
        by_cases h1 : ak = 1
        · have hk1b : (ak == 1) = true := by simp [h1]
          have hyn := HY1.out h1
          have hag : (Sf.prog x).again.length ≤ 16777216 := by show (Sf.pa x.again).length ≤ _; have := HOK.out.again_len; have := HOK.out.kl; simp [Sf.pa]; omega
          have HCL := Lib.hid (sclone_any p F (Sf.prog x) w2 HP2.out.st.send hag)
          clear h1 hag
          go_wp2_with fail
          refine HCL.out.mono ?_
          rintro e w3 ⟨p3, F3, rfl, s3, f3, b3⟩
          have HNX := Lib.hid (snextP_any p3 F3 x s0 hi HOK.out w3 s3)
          have FF3 := Lib.hid f3
          have BB3 := Lib.hid b3
          clear s3 f3 b3 HCL
          simp only
          rcases hxa : x.again with _ | ⟨n, r⟩
          · have hq := Sf.next_nil hxa
            have HXA := Lib.hid hxa
            clear hxa
            obtain ⟨gn, hgn⟩ : ∃ gn, (Sf.next x).2.1 % 16777216 = gn := ⟨_, rfl⟩
            obtain ⟨gm, hgm⟩ : ∃ gm, (Sf.next x).2.2.1 = gm := ⟨_, rfl⟩
            obtain ⟨q, hqe⟩ : ∃ q, (Sf.next x).2.2.2.2 = q := ⟨_, rfl⟩
            rw [hq, hgn, hgm, hqe] at HNX
            clear hgn hgm hqe hq hyn
            go_wp2_with fail
            refine HNX.out.mono ?_
            rintro e w4 ⟨rfl, _, t4⟩
            have F4 : Hid (Fresh w2 w4) := FF3.out.trans t4 (fun k hk hf => by have := BB3.out k hf; omega)
            have HM4 := Lib.hid (HM2.out.touch F4.out (fun h => h))
            have HK4 : Hid (∀ n ∈ x.again, n ∈ y.again → Mkd m (n % 16777216)) := fun n hn _ => HNM.out n hn
            have T4 : Hid (Touch (· = nb) w2 w4) := F4.out.mono (fun _ _ h => h.elim)
            clear t4 HNX F4 HM2 HNM HP2 BA2 C2
            simp only
            cases q
            all_goals
              go_wp2
              go_meet
              case rel => exact ⟨m, HM4, T4, HK4⟩
          · obtain ⟨hn1, hn2, hn3, hn4⟩ := Sf.next_cons hxa
            rw [hn1, hn2, hn3] at HNX
            obtain ⟨gm, hgm⟩ : ∃ gm, (Sf.next x).2.2.1 = gm := ⟨_, rfl⟩
            rw [hgm] at HNX
            have hxn : n ∈ x.again := by rw [hxa]; simp
            have hnm := HNM.out n hxn
            unfold Mkd at hnm
            have HV : Hid ((mget m (n % 16777216)).getD (.int .i64 0) = .int .i64 1) := by unfold Hid; rw [hnm]; rfl
            have hags := HOK.out.ags n hxn
            have HK4 : Hid (∀ n' ∈ x.again, n' ∈ y.again → Mkd (mset m (n % 16777216) (.int .i64 0)) (n' % 16777216)) := fun n' h1 h2 => by
              rw [hyn, hn4] at h2
              have hs := HOK.out.sorted
              rw [hxa] at hs
              have h3 := (List.pairwise_cons.1 hs).1 n' h2
              have h4 := HOK.out.ags n' h1
              have h5 := HOK.out.klen
              have h6 := HOK.out.kl
              exact Mkd.off (HNM.out n' h1) (by omega) _
            have HBT := Lib.hid (fun W => sbtw_any (x.a % 16777216) (n % 16777216) (x.s % 16777216) W (q := true) (decide_eq_true (by
              have h5 := HOK.out.klen
              have h6 := HOK.out.kl
              omega)))
            have hfa : ∀ (A : Option Addr) (c : Nat) (W : World), (Instr.field 43 (.agg #[.int .u32 (x.s % 16777216), .int .u32 (x.a % 16777216), .int .u32 (x.ms % 16777216), .int .u32 (x.ps % 16777216), .int .u32 (x.pa % 16777216), .int .i64 x.units, .int .i64 (x.wait.length : Int), .int .i64 (x.kept.length : Int), .slice A x.again.length c]) 1).run Tryz.prog W = .ok (.int .u32 (x.a % 16777216)) W := fun A c W => by kernel_rfl
            have hfs : ∀ (A : Option Addr) (c : Nat) (W : World), (Instr.field 43 (.agg #[.int .u32 (x.s % 16777216), .int .u32 (x.a % 16777216), .int .u32 (x.ms % 16777216), .int .u32 (x.ps % 16777216), .int .u32 (x.pa % 16777216), .int .i64 x.units, .int .i64 (x.wait.length : Int), .int .i64 (x.kept.length : Int), .slice A x.again.length c]) 0).run Tryz.prog W = .ok (.int .u32 (x.s % 16777216)) W := fun A c W => by kernel_rfl
            clear hgm hn1 hn2 hn3 hn4 hyn hxa hxn hnm hags
            go_wp2_with fail
            refine HNX.out.mono ?_
            rintro e w4 ⟨rfl, _, t4⟩
            have F4 : Hid (Fresh w2 w4) := FF3.out.trans t4 (fun k hk hf => by have := BB3.out k hf; omega)
            have HM4 := Lib.hid (HM2.out.touch F4.out (fun h => h))
            have HP4 := Lib.hid (HP2.out.old F4.out)
            have HV1 := Lib.hid HP4.out.vars
            clear t4 HNX HNM HP2 BA2 C2
            generalize n % 16777216 = nn at *
            simp only
            go_wp2_with (refine wpList_lookM rfl rfl (K := numK) (k := nn) rfl rfl HM4.out Tryz.underlying59 (zeroIntA _) ?_; rw [if_neg (by decide), HV.out])
            refine HV1.out.mono ?_
            rintro e w5' ⟨A5, c5, rfl, m5⟩
            have HP5 := Lib.hid (HP4.out.old m5.fresh)
            have F5 : Hid (Fresh w2 w5') := F4.out.trans m5.fresh (fun _ _ h => h)
            have HV2 := Lib.hid HP5.out.vars
            clear m5 HV1 HP4 HM4 F4
            simp only
            go_wp2_with fail
            refine HV2.out.mono ?_
            rintro e w6 ⟨A6, c6, rfl, m6⟩
            have F6 : Hid (Fresh w2 w6) := F5.out.trans m6.fresh (fun _ _ h => h)
            have HM6 := Lib.hid (HM2.out.touch F6.out (fun h => h))
            clear m6 HV2 HP5 F5
            simp only
            go_wp2_with fail
            refine (HBT.out _).mono ?_
            rintro e w6' ⟨rfl, h6⟩
            have h6 := h6.symm
            subst h6
            simp only
            go_wp2_with (refine wpList_storeM rfl rfl (K := numK) (k := nn) rfl rfl HM6.out Tryz.underlying59 ?_; intro w7 hm7 ht7; have HM7 : Hid (MapAt numK w7 nb (mset m nn (.int .i64 0))) := hm7; have T7 : Hid (Touch (· = nb) w2 w7) := (F6.out.mono (fun _ _ h => h.elim)).trans ht7 (fun _ _ h => h); clear hm7 ht7)
            go_meet
            case rel => exact ⟨_, HM7, T7, HK4⟩
        · have hk1b : (ak == 1) = false := by simpa using h1
          have HK4 : Hid (∀ n ∈ x.again, n ∈ y.again → Mkd m (n % 16777216)) := fun n hn _ => HNM.out n hn
          go_wp2
          go_meet
          case rel => exact ⟨m, HM2, Touch.refl _ _, HK4⟩
      case rest =>
        generalize wc = wa at *
        clear HNM
        obtain ⟨m', HMc, HTc, HK⟩ := hcut
        have HPc := Lib.hid (HP2.out.farM HM2.out HNF.out HNBB.out HTc.out)
        have BAc := Lib.hid (HTc.out.blk BA2.out (fun e => by have := HNL.out; have e : wr.heap.size = nb := e; omega))
        have Cc : Hid (Sl intE wa C d nl) := C2.out.touch HTc.out (fun ad e hk => by have h1 := HCB.out ad e; have h2 := HNL.out; have hk : ad.block = nb := hk; omega)
        have HSc := Lib.hid (HST.out wa HPc.out)
        have HWC : Hid (wr.heap.size < wa.heap.size) := BAc.out.lt
        clear HST HP2 HM2 BA2 C2 HTc
        have a0 : wa.cell? ⟨wr.heap.size, 0, none⟩ = some (.int .i64 ak) := BAc.out.cell 0
        have a1 : wa.cell? ⟨wr.heap.size, 1, none⟩ = some (.int .i64 ar) := BAc.out.cell 1
        have a2 : wa.cell? ⟨wr.heap.size, 2, none⟩ = some (.int .i64 am) := BAc.out.cell 2
        have a3 : wa.cell? ⟨wr.heap.size, 3, none⟩ = some (.int .i64 aps) := BAc.out.cell 3
        have a4 : wa.cell? ⟨wr.heap.size, 4, none⟩ = some (.slice zA aln zc) := BAc.out.cell 4
        have a5 : wa.cell? ⟨wr.heap.size, 5, none⟩ = some (.bool araw) := BAc.out.cell 5
        have a6 : wa.cell? ⟨wr.heap.size, 6, none⟩ = some (.string aM) := BAc.out.cell 6
        obtain ⟨d0, d1, d2, d3, d4, d5, d6, d7, d8, d9, da, db⟩ := HPc.out.cells
        go_wp2_with fail
        refine HSc.out.mono ?_
        rintro e w6 ⟨P6, F6, D6, rfl, st6, t6, hF6, _⟩
        have f7 : Fresh w6 (w6.alloc (.cells #[.int .i64 y.s, .int .i64 y.a, .int .i64 y.ms, .int .i64 y.ps, .int .i64 y.pa, .int .i64 y.units, .int .i64 y.polls, .int .i64 (y.most : Int), .slice P6.W y.wait.length P6.cw, .slice P6.K y.kept.length P6.ck, .slice P6.L y.last.length P6.cl, .slice P6.G y.again.length P6.cg] 33)) := (Touch.refl _ _).alloc _
        have ST7 := Lib.hid (st6.old f7)
        have T7 : Hid (Touch F wa (w6.alloc (.cells #[.int .i64 y.s, .int .i64 y.a, .int .i64 y.ms, .int .i64 y.ps, .int .i64 y.pa, .int .i64 y.units, .int .i64 y.polls, .int .i64 (y.most : Int), .slice P6.W y.wait.length P6.cw, .slice P6.K y.kept.length P6.ck, .slice P6.L y.last.length P6.cl, .slice P6.G y.again.length P6.cg] 33))) := t6.trans f7 (fun _ _ h => h.elim)
        have HF6 : Hid (∀ k, F6 k → F k ∨ wa.heap.size ≤ k) := hF6
        have BY7 : Hid (Blk (w6.alloc (.cells #[.int .i64 y.s, .int .i64 y.a, .int .i64 y.ms, .int .i64 y.ps, .int .i64 y.pa, .int .i64 y.units, .int .i64 y.polls, .int .i64 (y.most : Int), .slice P6.W y.wait.length P6.cw, .slice P6.K y.kept.length P6.ck, .slice P6.L y.last.length P6.cl, .slice P6.G y.again.length P6.cg] 33)) w6.heap.size 33 (sfCells y P6)) := Blk.new w6 _ (sfCells y P6)
        have HW6 : Hid (wa.heap.size ≤ w6.heap.size) := t6.size
        clear st6 t6 hF6 f7 HSc a0 a1 a2 a3 a4 a5 a6 d0 d1 d2 d3 d4 d5 d6 d7 d8 d9 da db
        unfold sfV
        simp only
        go_upto_region 20 with (fail)
        generalize w6.alloc (.cells #[.int .i64 y.s, .int .i64 y.a, .int .i64 y.ms, .int .i64 y.ps, .int .i64 y.pa, .int .i64 y.units, .int .i64 y.polls, .int .i64 (y.most : Int), .slice P6.W y.wait.length P6.cw, .slice P6.K y.kept.length P6.ck, .slice P6.L y.last.length P6.cl, .slice P6.G y.again.length P6.cg] 33) = w7 at *
        generalize w6.heap.size = by_ at *
        have I7 : Hid (SfIn w7 P x) := HPc.out.st.ins.touch HPc.out.st.dom T7.out (fun k hd hf => HPc.out.st.off k hf hd)
        have BX7 := Lib.hid (T7.out.blk HPc.out.box HPc.out.nf)
        have BA7 := Lib.hid (T7.out.blk BAc.out (fun hf => Nat.lt_irrefl _ (HFL.out _ hf)))
        have C7 : Hid (Sl intE w7 C d nl) := Cc.out.touch T7.out (fun ad e hf => by have h1 := HCB.out ad e; have h2 := HFL.out _ hf; omega)
        have M7 := Lib.hid (HMc.out.touch T7.out HNF.out)
        obtain ⟨z', hz'⟩ : ∃ z', (if (ak == 3) = true then Sf.stat x nr nm np nl else Sf.ustat x nr nm nl) = z' := ⟨_, rfl⟩
        have HRP := Lib.hid (sfrep_any (ak == 3) P D x nr nm np C d nl w7 I7.out HPc.out.st.dom (fun k hk => Nat.lt_of_lt_of_le (HPc.out.st.dlim k hk) T7.out.size) HOK.out C7.out.rd (by omega))
        rw [hz'] at HRP
        have HQ : Hid ((z'.2.2 ≠ 0 ∨ (ak ≠ 3 ∧ ak ≠ 4)) → ∀ n ∈ y.again, n ∈ x.again) := fun h n hn => by
          by_cases k3 : ak = 3
          · rw [HY3.out k3] at hn
            rw [if_pos (by simp [k3])] at hz'
            rcases Sf.stat_again hn with h1 | ⟨h1, _⟩
            · exact h1
            · rw [hz'] at h1
              rcases h with h | h
              · exact absurd h1 h
              · exact absurd k3 h.1
          · by_cases k4 : ak = 4
            · rw [HY4.out k4] at hn
              rw [if_neg (by simp [k3])] at hz'
              rcases Sf.ustat_again hn with h1 | ⟨h1, _⟩
              · exact h1
              · rw [hz'] at h1
                rcases h with h | h
                · exact absurd h1 h
                · exact absurd k4 h.2
            · exact HYO.out k3 k4 n hn
        have HQ2 : Hid (z'.2.2 = 0 → (Sf.toldOk x nr nl = true) ∧ ((ak = 3 ∨ ak = 4) → ∀ n ∈ y.again, n ∈ x.again ∨ ∃ i ∈ Sf.told x (Sf.at_ x nr) nl, n = Sf.at_ x nr + i)) := fun h => by
          by_cases k3 : ak = 3
          · rw [if_pos (by simp [k3])] at hz'
            refine ⟨Sf.stat_told (by rw [hz']; exact h), fun _ n hn => ?_⟩
            rw [HY3.out k3] at hn
            rcases Sf.stat_again hn with h1 | ⟨_, _, h1⟩
            · exact .inl h1
            · exact .inr h1
          · rw [if_neg (by simp [k3])] at hz'
            refine ⟨Sf.ustat_told (by rw [hz']; exact h), fun h34 n hn => ?_⟩
            have k4 : ak = 4 := h34.resolve_left k3
            rw [HY4.out k4] at hn
            rcases Sf.ustat_again hn with h1 | ⟨_, _, h1⟩
            · exact .inl h1
            · exact .inr h1
        clear hz' HY1 HY3 HY4 HYO
        obtain ⟨y', n', er⟩ := z'
        unfold SfRepPost sfV at HRP
        simp only at HRP HQ HQ2
        have d0 : w7.cell? ⟨b, 0, none⟩ = some (.int .i64 x.s) := BX7.out.cell 0
        have d1 : w7.cell? ⟨b, 1, none⟩ = some (.int .i64 x.a) := BX7.out.cell 1
        have d2 : w7.cell? ⟨b, 2, none⟩ = some (.int .i64 x.ms) := BX7.out.cell 2
        have d3 : w7.cell? ⟨b, 3, none⟩ = some (.int .i64 x.ps) := BX7.out.cell 3
        have d4 : w7.cell? ⟨b, 4, none⟩ = some (.int .i64 x.pa) := BX7.out.cell 4
        have d5 : w7.cell? ⟨b, 5, none⟩ = some (.int .i64 x.units) := BX7.out.cell 5
        have d6 : w7.cell? ⟨b, 6, none⟩ = some (.int .i64 x.polls) := BX7.out.cell 6
        have d7 : w7.cell? ⟨b, 7, none⟩ = some (.int .i64 (x.most : Int)) := BX7.out.cell 7
        have d8 : w7.cell? ⟨b, 8, none⟩ = some (.slice P.W x.wait.length P.cw) := BX7.out.cell 8
        have d9 : w7.cell? ⟨b, 9, none⟩ = some (.slice P.K x.kept.length P.ck) := BX7.out.cell 9
        have da : w7.cell? ⟨b, 10, none⟩ = some (.slice P.L x.last.length P.cl) := BX7.out.cell 10
        have db : w7.cell? ⟨b, 11, none⟩ = some (.slice P.G x.again.length P.cg) := BX7.out.cell 11
        have a0 : w7.cell? ⟨wr.heap.size, 0, none⟩ = some (.int .i64 ak) := BA7.out.cell 0
        go_wp2_with fail
        refine HRP.out.mono ?_
        rintro e w8 ⟨V, rfl, ho⟩
        obtain ⟨Q8, rfl, i8, q8, f8⟩ := ho.open_
        have f9 : Fresh w7 (w8.alloc (.cells #[.int .i64 y'.s, .int .i64 y'.a, .int .i64 y'.ms, .int .i64 y'.ps, .int .i64 y'.pa, .int .i64 y'.units, .int .i64 y'.polls, .int .i64 (y'.most : Int), .slice Q8.W y'.wait.length Q8.cw, .slice Q8.K y'.kept.length Q8.ck, .slice Q8.L y'.last.length Q8.cl, .slice Q8.G y'.again.length Q8.cg] 33)) := f8.alloc _
        have F9 := Lib.hid f9
        clear ho i8 q8 f8 f9 HRP a0 d0 d1 d2 d3 d4 d5 d6 d7 d8 d9 da db I7
        unfold sfV
        simp only
        go_upto_region 23 with (fail)
        generalize w8.alloc (.cells #[.int .i64 y'.s, .int .i64 y'.a, .int .i64 y'.ms, .int .i64 y'.ps, .int .i64 y'.pa, .int .i64 y'.units, .int .i64 y'.polls, .int .i64 (y'.most : Int), .slice Q8.W y'.wait.length Q8.cw, .slice Q8.K y'.kept.length Q8.ck, .slice Q8.L y'.last.length Q8.cl, .slice Q8.G y'.again.length Q8.cg] 33) = w9 at *
        have BA9 := Lib.hid (F9.out.blk BA7.out (fun h => h))
        have BX9 := Lib.hid (F9.out.blk BX7.out (fun h => h))
        have BY9 := Lib.hid (F9.out.blk BY7.out (fun h => h))
        have C9 : Hid (Sl intE w9 C d nl) := C7.out.touch F9.out (fun _ _ h => h)
        have M9 := Lib.hid (M7.out.touch F9.out (fun h => h))
        have ST9 := Lib.hid (ST7.out.old F9.out)
        have T9 : Hid (Touch F wa w9) := T7.out.trans F9.out (fun _ _ h => h.elim)
        clear BA7 BX7 BY7 C7 M7 ST7 T7 F9 BAc Cc
        have a0 : w9.cell? ⟨wr.heap.size, 0, none⟩ = some (.int .i64 ak) := BA9.out.cell 0
        go_cut [125] (fun s wx => ∃ q : Bool, s = .bool q ∧ Hid (q = true → er = 0 ∧ (ak = 3 ∨ ak = 4)) ∧ Hid (q = false → (er ≠ 0 ∨ (ak ≠ 3 ∧ ak ≠ 4))) ∧ wx = w9)
        case first =>
          by_cases k3 : ak = 3
          · have k3b : (ak == 3) = true := by simp [k3]
            by_cases her : er = 0
            · have herb : (er == 0) = true := by simp [her]
              have G1 : Hid (er = 0 ∧ (ak = 3 ∨ ak = 4)) := ⟨her, .inl k3⟩
              clear her k3
              go_wp2
              go_meet
              case rel => exact ⟨true, by first | rfl | simp, fun _ => G1.out, fun h => (by cases h), by first | rfl | trivial⟩
            · have herb : (er == 0) = false := by simpa using her
              have G2 : Hid (er ≠ 0 ∨ (ak ≠ 3 ∧ ak ≠ 4)) := .inl her
              clear her k3
              go_wp2
              go_meet
              case rel => exact ⟨false, by first | rfl | simp, fun h => (by cases h), fun _ => G2.out, by first | rfl | trivial⟩
          · have k3b : (ak == 3) = false := by simpa using k3
            by_cases k4 : ak = 4
            · have k4b : (ak == 4) = true := by simp [k4]
              by_cases her : er = 0
              · have herb : (er == 0) = true := by simp [her]
                have G1 : Hid (er = 0 ∧ (ak = 3 ∨ ak = 4)) := ⟨her, .inr k4⟩
                clear her k3 k4
                go_wp2
                go_meet
                case rel => exact ⟨true, by first | rfl | simp, fun _ => G1.out, fun h => (by cases h), by first | rfl | trivial⟩
              · have herb : (er == 0) = false := by simpa using her
                have G2 : Hid (er ≠ 0 ∨ (ak ≠ 3 ∧ ak ≠ 4)) := .inl her
                clear her k3 k4
                go_wp2
                go_meet
                case rel => exact ⟨false, by first | rfl | simp, fun h => (by cases h), fun _ => G2.out, by first | rfl | trivial⟩
            · have k4b : (ak == 4) = false := by simpa using k4
              have G2 : Hid (er ≠ 0 ∨ (ak ≠ 3 ∧ ak ≠ 4)) := .inr ⟨k3, k4⟩
              clear k3 k4
              go_wp2
              go_meet
              case rel => exact ⟨false, by first | rfl | simp, fun h => (by cases h), fun _ => G2.out, by first | rfl | trivial⟩
        case rest =>
          obtain ⟨q, rfl, G1, G2, hw⟩ := hcut
          have hw := hw.symm
          subst hw
          clear a0
          go_upto_if 125 with (fail)
          go_cut [] (fun wx => ∃ m'' : MList Int, Hid (MapAt numK wx nb m'') ∧ Hid (Touch (· = nb) w9 wx) ∧ Hid (∀ n ∈ y.again, Mkd m'' (n % 16777216)))
          case first =>
            cases q with
            | false =>
              have HKK : Hid (∀ n ∈ y.again, Mkd m' (n % 16777216)) := fun n hn => HK.out n (HQ.out (G2.out rfl) n hn) hn
              clear HQ HQ2 G1 G2 HK
              go_wp2
              go_meet
              case rel => exact ⟨m', M9, Touch.refl _ _, HKK⟩
            | true =>
              obtain ⟨her, h34⟩ := G1.out rfl
              obtain ⟨htold, hmem⟩ := HQ2.out her
              obtain ⟨hR0, hpair, hcov⟩ := Sf.told_marks HOK.out htold
              have HMEM : Hid (∀ n ∈ y.again, n ∈ x.again ∨ ∃ i ∈ Sf.told x (Sf.at_ x nr) nl, n = Sf.at_ x nr + i) := hmem h34
              generalize Sf.told x (Sf.at_ x nr) nl = TT at *
              generalize Sf.at_ x nr = R at *
              have HPAIR := Lib.hid hpair
              have HCOV := Lib.hid hcov
              clear her h34 htold hmem hpair hcov HQ HQ2 G1 G2
              go_wp2_with fail
              go_loopw [24] (fun s24 wx => ∃ (j c : Nat) (mm : MList Int), s24 = .int .i64 (j : Int) ∧ Hid (j = 2 * c) ∧ j ≤ nl.length + 1 ∧ Hid (MapAt numK wx nb mm) ∧ Hid (Touch (· = nb) w9 wx) ∧ Hid (∀ q, Mkd m' q → Mkd mm q) ∧ Hid (∀ k : Nat, k < c → 2 * k + 1 < nl.length → ∀ i, (nl.getD (2 * k) 0 - R) % 16777216 ≤ i → i < (nl.getD (2 * k + 1) 0 - R) % 16777216 → Mkd mm ((R + i) % 16777216))) (fun s24 _ => nl.length + 2 - (intOf s24).toNat)
              case atStart => exact ⟨0, 0, m', rfl, rfl, by omega, M9, Touch.refl _ _, fun _ h => h, fun k hk => by omega⟩
              case round =>
                obtain ⟨j, c, mm, rfl, hjc, hjl, HMM, HTM, HKE, HMA⟩ := hrel
                have hj0 : (0 : Int) ≤ (j : Int) := by omega
                by_cases hj : j + 1 < nl.length
                · have hj1 : (j : Int) + 1 < (nl.length : Int) := by omega
                  have hjw : IntKind.i64.wrap ((j : Int) + 1) = (j : Int) + 1 := IntWalk.i64_in _ (by omega)
                  have CX : Hid (∀ W, Touch (· = nb) w9 W → Sl intE W C d nl) := fun W ht => C9.out.touch ht (fun ad e hk => by have h1 := HCB.out ad e; have h2 := HNL.out; have hk : ad.block = nb := hk; omega)
                  obtain ⟨gc, oc, hCe, _, z0⟩ := (CX.out wr HTM.out).int_at j (by omega)
                  have HC1 : Hid (∀ W, Touch (· = nb) w9 W → W.cell? ⟨gc, oc + (j + 1), none⟩ = some (.int .i64 (nl.getD (j + 1) 0))) := fun W ht => by
                    obtain ⟨gc', oc', hCe', _, z1⟩ := (CX.out W ht).int_at (j + 1) hj
                    rw [hCe] at hCe'
                    cases hCe'
                    exact z1
                  have hp := HPAIR.out j hj
                  have HLo : 0 ≤ nl.getD j 0 ∧ nl.getD j 0 < 16777216 := HLB.out _ (by
                    have e : nl.getD j 0 = nl[j]'(by omega) := by simp [List.getD, List.getElem?_eq_getElem (show j < nl.length by omega)]
                    rw [e]
                    exact List.getElem_mem _)
                  have HHi : 0 ≤ nl.getD (j + 1) 0 ∧ nl.getD (j + 1) 0 < 16777216 := HLB.out _ (by
                    have e : nl.getD (j + 1) 0 = nl[j + 1]'hj := by simp [List.getD, List.getElem?_eq_getElem hj]
                    rw [e]
                    exact List.getElem_mem _)
                  have HMA2 : Hid (∀ (W : MList Int), (∀ q, Mkd mm q → Mkd W q) → (∀ u : Int, (nl.getD j 0 - R) % 16777216 ≤ u → u < (nl.getD (j + 1) 0 - R) % 16777216 → Mkd W ((R + u) % 16777216)) → ∀ k : Nat, k < c + 1 → 2 * k + 1 < nl.length → ∀ i, (nl.getD (2 * k) 0 - R) % 16777216 ≤ i → i < (nl.getD (2 * k + 1) 0 - R) % 16777216 → Mkd W ((R + i) % 16777216)) := fun W h1 h2 k hk hkl i hi1 hi2 => by
                    by_cases hkc : k = c
                    · subst hkc
                      rw [← hjc.out] at hi1 hi2
                      exact h2 i hi1 hi2
                    · exact h1 _ (HMA.out k (by omega) hkl i hi1 hi2)
                  have HO1 : Hid (∀ W, Calls Tryz.prog 9 #[.int .i64 (nl.getD j 0)] W fun e w' => e = .returned (.int .u32 (nl.getD j 0)) ∧ w' = W) := fun W => by
                    have := sof_any (nl.getD j 0) W
                    rwa [Int.emod_eq_of_lt HLo.1 HLo.2] at this
                  have HO2 : Hid (∀ W, Calls Tryz.prog 9 #[.int .i64 (nl.getD (j + 1) 0)] W fun e w' => e = .returned (.int .u32 (nl.getD (j + 1) 0)) ∧ w' = W) := fun W => by
                    have := sof_any (nl.getD (j + 1) 0) W
                    rwa [Int.emod_eq_of_lt HHi.1 HHi.2] at this
                  generalize nl.getD j 0 = va at *
                  generalize nl.getD (j + 1) 0 = vb at *
                  rw [hCe]
                  have HCE := Lib.hid hCe
                  clear hCe HMA
                  go_wp2_with fail
                  refine (HO1.out _).mono ?_
                  rintro e w10 ⟨rfl, h10⟩
                  have h10 := h10.symm
                  subst h10
                  clear z0
                  simp only
                  go_wp2_with fail
                  go_loopw [25] (fun s25 wx => ∃ (t : Nat) (m3 : MList Int), s25 = .int .u32 ((R + (va - R) % 16777216 + (t : Int)) % 16777216) ∧ (t : Int) ≤ (vb - R) % 16777216 - (va - R) % 16777216 ∧ Hid (MapAt numK wx nb m3) ∧ Hid (Touch (· = nb) w9 wx) ∧ Hid (∀ q, Mkd mm q → Mkd m3 q) ∧ Hid (∀ u : Int, (va - R) % 16777216 ≤ u → u < (va - R) % 16777216 + (t : Int) → Mkd m3 ((R + u) % 16777216))) (fun s25 _ => ((R + (vb - R) % 16777216 - intOf s25) % 16777216).toNat)
                  case atStart => exact ⟨0, mm, by congr 1; omega, by omega, HMM, HTM, fun _ h => h, fun u h1 h2 => by omega⟩
                  case round =>
                    clear HMM HTM
                    obtain ⟨t, m3, rfl, ht, HM3, HT3, HK3, HU3⟩ := hrel
                    have z1 := HC1.out _ HT3.out
                    by_cases htl : (t : Int) < (vb - R) % 16777216 - (va - R) % 16777216
                    · have hne : ((R + (va - R) % 16777216 + (t : Int)) % 16777216 == vb) = false := by
                        rw [beq_eq_false_iff_ne]
                        omega
                      have e1 : ((R + (va - R) % 16777216 + (t : Int)) % 16777216 + 1) % 16777216 = (R + (va - R) % 16777216 + ((t + 1 : Nat) : Int)) % 16777216 := by omega
                      have HU4 : Hid (∀ u : Int, (va - R) % 16777216 ≤ u → u < (va - R) % 16777216 + ((t + 1 : Nat) : Int) → Mkd (mset m3 ((R + (va - R) % 16777216 + (t : Int)) % 16777216) (.int .i64 1)) ((R + u) % 16777216)) := fun u h1 h2 => by
                        by_cases hu : u < (va - R) % 16777216 + (t : Int)
                        · exact (HU3.out u h1 hu).set _
                        · have : u = (va - R) % 16777216 + (t : Int) := by omega
                          subst this
                          rw [show R + ((va - R) % 16777216 + (t : Int)) = R + (va - R) % 16777216 + (t : Int) by omega]
                          exact Mkd.here _ _
                      have HK4 : Hid (∀ q, Mkd mm q → Mkd (mset m3 ((R + (va - R) % 16777216 + (t : Int)) % 16777216) (.int .i64 1)) q) := fun q h => (HK3.out q h).set _
                      have hme : ((R + (vb - R) % 16777216 - (R + (va - R) % 16777216 + ((t + 1 : Nat) : Int)) % 16777216) % 16777216).toNat < ((R + (vb - R) % 16777216 - (R + (va - R) % 16777216 + (t : Int)) % 16777216) % 16777216).toNat := by omega
                      have HAD := Lib.hid (fun W => sadd_any ((R + (va - R) % 16777216 + (t : Int)) % 16777216) 1 W)
                      rw [e1] at HAD
                      have ht1 : ((t + 1 : Nat) : Int) ≤ (vb - R) % 16777216 - (va - R) % 16777216 := by omega
                      clear e1 HU3 HK3 htl ht
                      obtain ⟨cu2, hcu2⟩ : ∃ c, (R + (va - R) % 16777216 + ((t + 1 : Nat) : Int)) % 16777216 = c := ⟨_, rfl⟩
                      have HCU2 : Hid (Value.int .u32 cu2 = .int .u32 ((R + (va - R) % 16777216 + ((t + 1 : Nat) : Int)) % 16777216)) := by unfold Hid; rw [hcu2]
                      rw [hcu2] at HAD hme
                      clear hcu2
                      generalize (R + (va - R) % 16777216 + (t : Int)) % 16777216 = cu at *
                      go_wp2_with fail
                      refine (HO2.out _).mono ?_
                      rintro e w11 ⟨rfl, h11⟩
                      have h11 := h11.symm
                      subst h11
                      simp only
                      go_wp2_with (refine wpList_storeM rfl rfl (K := numK) (k := cu) rfl rfl HM3.out Tryz.underlying59 ?_; intro w12 hm12 ht12; have HM12 : Hid (MapAt numK w12 nb (mset m3 cu (.int .i64 1))) := hm12; have T12 : Hid (Touch (· = nb) w9 w12) := HT3.out.trans ht12 (fun _ _ h => h); clear hm12 ht12)
                      refine (HAD.out _).mono ?_
                      rintro e w13 ⟨rfl, h13⟩
                      have h13 := h13.symm
                      subst h13
                      simp only
                      go_wp2
                      go_roundw
                      case rel => exact ⟨t + 1, _, HCU2.out, ht1, HM12, T12, HK4, HU4⟩
                      case measure => simpa [intOf] using hme
                    · have heq : ((R + (va - R) % 16777216 + (t : Int)) % 16777216 == vb) = true := by
                        rw [beq_iff_eq]
                        omega
                      have hjn : Hid (j + 2 = 2 * (c + 1)) := by have := hjc.out; unfold Hid; omega
                      have HKE2 : Hid (∀ q, Mkd m' q → Mkd m3 q) := fun q h => HK3.out q (HKE.out q h)
                      have HMB : Hid (∀ k : Nat, k < c + 1 → 2 * k + 1 < nl.length → ∀ i, (nl.getD (2 * k) 0 - R) % 16777216 ≤ i → i < (nl.getD (2 * k + 1) 0 - R) % 16777216 → Mkd m3 ((R + i) % 16777216)) := HMA2.out m3 HK3.out (fun u h1 h2 => HU3.out u h1 (by omega))
                      clear HU3 HK3 HMA2 htl ht HKE
                      generalize (R + (va - R) % 16777216 + (t : Int)) % 16777216 = cu at *
                      go_wp2_with fail
                      refine (HO2.out _).mono ?_
                      rintro e w11 ⟨rfl, h11⟩
                      have h11 := h11.symm
                      subst h11
                      simp only
                      go_wp2
                      go_roundw
                      case rel => exact ⟨j + 2, c + 1, m3, by go_num, hjn, by omega, HM3, HT3, HKE2, HMB⟩
                      case measure => simp [intOf]; omega
                · have hj1 : ¬ (j : Int) + 1 < (nl.length : Int) := by omega
                  have hjw : IntKind.i64.wrap ((j : Int) + 1) = (j : Int) + 1 := IntWalk.i64_in _ (by omega)
                  have HFI : Hid (∀ n ∈ y.again, Mkd mm (n % 16777216)) := fun n hn => by
                    rcases HMEM.out n hn with h | ⟨i, hi1, e⟩
                    · exact HKE.out _ (HK.out n h hn)
                    · obtain ⟨k, k1, k2, k3⟩ := HCOV.out i hi1
                      rw [e]
                      exact HMA.out k (by have := hjc.out; omega) k1 i k2 k3
                  clear HKE HMA
                  go_wp2
                  go_meet
                  case rel => exact ⟨mm, HMM, HTM, HFI⟩
          case rest =>
            obtain ⟨m'', HMd, HTd, HMK⟩ := hcut
            have hnb6 : ¬ F6 nb := fun hf => by
              rcases HF6.out nb hf with h | h
              · exact HNF.out h
              · have h1 := HNL.out; have h2 := HWC.out; omega
            have STd := Lib.hid (ST9.out.farM M9.out hnb6 HTd.out)
            have BXd := Lib.hid (HTd.out.blk BX9.out (fun e => M9.out.blk_ne BX9.out e.symm))
            have BYd := Lib.hid (HTd.out.blk BY9.out (fun e => M9.out.blk_ne BY9.out e.symm))
            have Td : Hid (Touch (fun k => F k ∨ k = nb) wa wc) := (T9.out.mono (fun _ _ h => .inl h)).trans HTd.out (fun _ _ h => .inr h)
            have HX := Lib.hid (HPc.out.next' STd.out Td.out (fun h => by
              rcases h with h | h
              · exact HPc.out.nf h
              · exact HMc.out.blk_ne HPc.out.box h.symm) (fun k h => by
              rcases h with h | h
              · exact HPc.out.base.2 k h
              · have := HNBB.out; omega) HF6.out)
            have HNF6 := Lib.hid hnb6
            have HME : Hid (MapAt numK ((((((((((((wc.setCell ⟨b, 0, none⟩ (.int .i64 y.s)).setCell ⟨b, 1, none⟩ (.int .i64 y.a)).setCell ⟨b, 2, none⟩ (.int .i64 y.ms)).setCell ⟨b, 3, none⟩ (.int .i64 y.ps)).setCell ⟨b, 4, none⟩ (.int .i64 y.pa)).setCell ⟨b, 5, none⟩ (.int .i64 y.units)).setCell ⟨b, 6, none⟩ (.int .i64 y.polls)).setCell ⟨b, 7, none⟩ (.int .i64 (y.most : Int))).setCell ⟨b, 8, none⟩ (.slice P6.W y.wait.length P6.cw)).setCell ⟨b, 9, none⟩ (.slice P6.K y.kept.length P6.ck)).setCell ⟨b, 10, none⟩ (.slice P6.L y.last.length P6.cl)).setCell ⟨b, 11, none⟩ (.slice P6.G y.again.length P6.cg)) nb m'') := HMd.out.touch (Touch.st12 (S := (· = b)) (Touch.refl _ _) rfl) (fun e => HMd.out.blk_ne BXd.out e)
            have d0 : wc.cell? ⟨b, 0, none⟩ = some (.int .i64 x.s) := BXd.out.cell 0
            have d1 : wc.cell? ⟨b, 1, none⟩ = some (.int .i64 x.a) := BXd.out.cell 1
            have d2 : wc.cell? ⟨b, 2, none⟩ = some (.int .i64 x.ms) := BXd.out.cell 2
            have d3 : wc.cell? ⟨b, 3, none⟩ = some (.int .i64 x.ps) := BXd.out.cell 3
            have d4 : wc.cell? ⟨b, 4, none⟩ = some (.int .i64 x.pa) := BXd.out.cell 4
            have d5 : wc.cell? ⟨b, 5, none⟩ = some (.int .i64 x.units) := BXd.out.cell 5
            have d6 : wc.cell? ⟨b, 6, none⟩ = some (.int .i64 x.polls) := BXd.out.cell 6
            have d7 : wc.cell? ⟨b, 7, none⟩ = some (.int .i64 (x.most : Int)) := BXd.out.cell 7
            have d8 : wc.cell? ⟨b, 8, none⟩ = some (.slice P.W x.wait.length P.cw) := BXd.out.cell 8
            have d9 : wc.cell? ⟨b, 9, none⟩ = some (.slice P.K x.kept.length P.ck) := BXd.out.cell 9
            have da : wc.cell? ⟨b, 10, none⟩ = some (.slice P.L x.last.length P.cl) := BXd.out.cell 10
            have db : wc.cell? ⟨b, 11, none⟩ = some (.slice P.G x.again.length P.cg) := BXd.out.cell 11
            have c0 : wc.cell? ⟨by_, 0, none⟩ = some (.int .i64 y.s) := BYd.out.cell 0
            have c1 : wc.cell? ⟨by_, 1, none⟩ = some (.int .i64 y.a) := BYd.out.cell 1
            have c2 : wc.cell? ⟨by_, 2, none⟩ = some (.int .i64 y.ms) := BYd.out.cell 2
            have c3 : wc.cell? ⟨by_, 3, none⟩ = some (.int .i64 y.ps) := BYd.out.cell 3
            have c4 : wc.cell? ⟨by_, 4, none⟩ = some (.int .i64 y.pa) := BYd.out.cell 4
            have c5 : wc.cell? ⟨by_, 5, none⟩ = some (.int .i64 y.units) := BYd.out.cell 5
            have c6 : wc.cell? ⟨by_, 6, none⟩ = some (.int .i64 y.polls) := BYd.out.cell 6
            have c7 : wc.cell? ⟨by_, 7, none⟩ = some (.int .i64 (y.most : Int)) := BYd.out.cell 7
            have c8 : wc.cell? ⟨by_, 8, none⟩ = some (.slice P6.W y.wait.length P6.cw) := BYd.out.cell 8
            have c9 : wc.cell? ⟨by_, 9, none⟩ = some (.slice P6.K y.kept.length P6.ck) := BYd.out.cell 9
            have ca : wc.cell? ⟨by_, 10, none⟩ = some (.slice P6.L y.last.length P6.cl) := BYd.out.cell 10
            have cb : wc.cell? ⟨by_, 11, none⟩ = some (.slice P6.G y.again.length P6.cg) := BYd.out.cell 11
            have fz := fun i => BXd.out.frozen i
            clear hnb6 STd BXd BYd Td HPc HMc HTd HMd ST9 M9 T9 BX9 BY9 BA9 C9 HK HQ HQ2 G1 G2
            go_wp2
            go_roundw
            case rel => exact ⟨k + 1, F6, D6, P6, y, hi + 4, m'', by omega, by omega, by go_num, HX, by omega, HME, HNF6, HMK⟩
            case measure => simp [intOf]; omega
    · have FF := Lib.hid HP.out.fresh
      clear HP HM HNF HNM
      by_cases h1 : k < l.length
      · have hk1' : (k : Int) < (l.length : Int) := by omega
        have hdk1 : decide ((k : Int) < (l.length : Int)) = true := decide_eq_true hk1'
        have hk2' : ¬ (k : Int) < 80 := by omega
        have hdk2 : decide ((k : Int) < 80) = false := decide_eq_false hk2'
        go_wp2
        go_ret
        exact ⟨rfl, FF.out.below (Nat.le_refl _) (fun _ _ h => h)⟩
      · have hk1' : ¬ (k : Int) < (l.length : Int) := by omega
        have hdk1 : decide ((k : Int) < (l.length : Int)) = false := decide_eq_false hk1'
        go_wp2
        go_ret
        exact ⟨rfl, FF.out.below (Nat.le_refl _) (fun _ _ h => h)⟩

set_option maxRecDepth 10000 in
theorem sendAgain.walk (start : Int) (v : Value) (w : World) (_h0 : (Lit.int .i64 start).wf = true) {H : Type} {enc : TypeId × Value → H} {b0 : Nat} {d : DataW H} {p : List MemPlace} (hv : Value.okWide Tryz.prog w .any b0 22 v) (h : DataW.Trod enc Tryz.prog w 0 (fun _ => true) true 22 v d p) :
    Calls Tryz.prog 6 #[.int .i64 start, v] w fun e w' => e = .returned (.bool true) ∧ Below w.heap.size w w' := by
  obtain ⟨A, c, l, rfl, hr, hg⟩ := open_rd_act11 hv h
  exact sendAgain.core start A c l w hr hg
end Go.Proofs.YtajdnllkkekmnaaGreat

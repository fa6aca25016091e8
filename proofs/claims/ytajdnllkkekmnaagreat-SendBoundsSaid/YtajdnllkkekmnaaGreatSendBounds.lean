/-
  SendBounds: A, S and MS stand in their order, and the buffer has just A to S, whatever is told.
-/
import Derived.Test.YtajdnllkkekmnaaGreatPl11
import Derived.Deep.RegionLaw
namespace Go.Proofs.YtajdnllkkekmnaaGreat
open Go.RowKit Go.ChangeShapes Go.WideShapes Go.ChangeAt

theorem Sf.step_most (x : Sf.S) (a : Act11) (m : ByteArray) : (Sf.step x a m).most = x.most := by
  have hop : ∀ (y : Sf.S) (k : Int), (Sf.opn y k).most = y.most := fun y k => by unfold Sf.opn; split <;> rfl
  unfold Sf.step
  split
  · unfold Sf.next
    split
    · rfl
    · split
      · rfl
      · split <;> rfl
  · split
    · rfl
    · split
      · unfold Sf.stat
        split
        · rfl
        · split
          · rfl
          · exact hop _ _
      · split
        · unfold Sf.ustat
          split
          · rfl
          · exact hop _ _
        · split
          · exact hop _ _
          · split
            · rfl
            · unfold Sf.put
              split <;> rfl
theorem Sf.Ok.last_pw {x : Sf.S} {lo hi : Int} (h : Sf.Ok x lo hi) {j i : Nat} (hj : j < i) (hi : i < x.again.length) : x.again.getD j 0 < x.again.getD i 0 := by
  have h1 : j < x.again.length := by omega
  have := List.pairwise_iff_getElem.1 h.sorted j i h1 hi hj
  simpa [List.getD, List.getElem?_eq_getElem h1, List.getElem?_eq_getElem hi] using this

set_option maxHeartbeats 8000000 in
set_option maxRecDepth 4000 in
theorem sendBounds.core (start : Int) (A0 : Option Addr) (c0' : Nat) (l : List Act11b) (w : World) (h : Rd act11E w A0 c0' l) (hl : ∀ a ∈ l, a.Good w) :
    Calls Tryz.prog 4 #[.int .i64 start, .slice A0 l.length c0'] w fun e w' => e = .returned (.bool true) ∧ Below w.heap.size w w' := by
  have hlc := h.1
  have hcm := h.2.1
  unfold maxLen at hcm
  have HR := Lib.hid h
  have HS := Lib.hid hl
  clear h hl
  have HSO := Lib.hid (sof_any start)
  have HNW : Hid (∀ W, Fresh w W → Calls Tryz.prog 8 #[.int .u32 (start % 16777216), .int .i64 20, .int .i64 5] W fun e w' => ∃ p, e = .returned (.pointer (some ⟨p, 0, none⟩)) ∧ OwnSend w w' p (Sf.prog (Sf.new start 20 5))) := fun W hf => onew (start % 16777216) 20 5 hf (Sd.new_mod start 20 5)
  have HRN := Lib.hid (fun W => sfnew_any start 20 5 W)
  have HPN := Lib.hid (fun (W : World) (p : Nat) (h : OwnSend w W p (Sf.prog (Sf.new start 20 5))) => PlSt11.new h)
  have HO0 : Hid (Sf.Ok (Sf.new start 20 5) (start % 16777216) (start % 16777216)) := Sf.Ok.new start 20 5 _ (Int.le_refl _) (by omega)
  have HM0 : Hid ((Sf.new start 20 5).most = 20) := rfl
  unfold sfV at HRN
  generalize Sf.new start 20 5 = x0 at *
  have hsn : 0 ≤ start % 16777216 ∧ start % 16777216 < 16777216 := by omega
  generalize start % 16777216 = s0 at *
  go_enter Tryz.func4, Tryz.ntmps4
  go_wp2_with fail
  refine (awake11 w).mono ?_
  rintro e w1 ⟨rfl, f1⟩
  have F1 := Lib.hid f1
  clear f1
  simp only
  go_wp2_with fail
  refine (HSO.out w1).mono ?_
  rintro e w2 ⟨rfl, rfl⟩
  simp only
  go_wp2_with fail
  refine (HNW.out w2 F1.out).mono ?_
  rintro e w3 ⟨p, rfl, o3⟩
  have O3 := Lib.hid o3
  clear o3 HNW
  simp only
  go_wp2_with fail
  refine (HRN.out w3).mono ?_
  rintro e w4 ⟨rfl, f4⟩
  have O4 := Lib.hid (O3.out.old f4)
  clear f4 O3 HRN
  simp only
  have PL := Lib.hid (HPN.out w4 p O4.out)
  clear O4 HPN F1
  go_wp2_with fail
  generalize World.alloc w4 _ = w5 at *
  obtain ⟨b, hb⟩ : ∃ b, b = w4.heap.size := ⟨_, rfl⟩
  rw [← hb] at PL ⊢
  generalize (fun k => w.heap.size ≤ k ∧ k < b) = F0 at PL
  clear hb
  go_loopw [7] (fun i wr => ∃ (k : Nat) (F D : Nat → Prop) (P : SfP) (x : Sf.S) (hi : Int), k ≤ l.length ∧ k ≤ 80 ∧ i = .int .i64 k ∧ Hid (PlSt11 w wr p b F D P x s0 hi) ∧ hi = s0 + 4 * (k : Int) ∧ Hid (Sf.Ok x s0 (s0 + (k : Int))) ∧ Hid (x.most = 20)) (fun i _ => l.length - (intOf i).toNat)
  case atStart => exact ⟨0, F0, _, _, _, s0, by omega, by omega, rfl, PL, by omega, by simpa using HO0, HM0⟩
  case round =>
    clear PL HO0 HM0
    obtain ⟨k, F, D, P, x, hi, hk, hk80, rfl, HP, hhi, HOK, HMO⟩ := hrel
    have hcont : (k < l.length ∧ k < 80) ∨ ¬ (k < l.length ∧ k < 80) := Decidable.em _
    rcases hcont with ⟨hk1, hk2⟩ | hstop
    · have hk1' : (k : Int) < (l.length : Int) := by omega
      have hdk1 : decide ((k : Int) < (l.length : Int)) = true := decide_eq_true hk1'
      have hk2' : (k : Int) < 80 := by omega
      have hdk2 : decide ((k : Int) < 80) = true := decide_eq_true hk2'
      have hk0 : (0 : Int) ≤ (k : Int) := by omega
      obtain ⟨z, hz⟩ : ∃ z, l.getD k Act11b.none = z := ⟨_, rfl⟩
      have HG := Lib.hid (Act11b.good_at HS.out HP.out.fresh k hk1 hz)
      obtain ⟨ga, oa, rfl, _, e0, e1, e2, e3, e4, e5, e6⟩ := (HR.out.touch HP.out.fresh (fun _ _ _ h => h)).act11_at k hk1 hz
      clear hz
      obtain ⟨⟨ak, ar, am, aps, al, araw, aM⟩, zA, zc⟩ := z
      obtain ⟨y, hy⟩ : ∃ y, Sf.step x ⟨ak, ar, am, aps, al, araw, aM⟩ (cut5 aM) = y := ⟨_, rfl⟩
      obtain ⟨d0, d1, d2, d3, d4, d5, d6, d7, d8, d9, da, db⟩ := HP.out.cells
      have HST := Lib.hid (fun W (hf : Fresh wr W) => plstep11 (HP.out.old hf) _ zA zc (HG.out.1.touch hf (fun _ _ _ h => h)) HG.out.2.1 HG.out.2.2 (by omega) hy)
      have HOY : Hid (Sf.Ok y s0 (s0 + ((k + 1 : Nat) : Int))) := by
        have := HOK.out.step ⟨ak, ar, am, aps, al, araw, aM⟩ (cut5 aM) (by omega)
        rw [hy] at this
        rw [show s0 + ((k + 1 : Nat) : Int) = s0 + (k : Int) + 1 by omega]
        exact this
      have HMY : Hid (y.most = 20) := by rw [← hy]; exact (Sf.step_most _ _ _).trans HMO.out
      clear hy HG HOK HMO
      simp only at HST e0 e1 e2 e3 e4 e5 e6
      have g1 : Fresh wr wr.drew := (Touch.refl _ _).drew
      generalize al.length = aln at *
      go_upto_region 9 with (fail)
      go_region_law (go_simp; go_at_call 11; refine (HST.out _ (by assumption)).mono ?_; rintro e' w6 ⟨F6, D6, P6, rfl, ⟨fz, y0, y1, y2, y3, y4, y5, y6, y7, y8, y9, ya, yb⟩, hp6, _⟩; have HP6 := Lib.hid hp6; clear hp6)
      all_goals
        clear y0 y1 y2 y3 y4 y5 y6 y7 y8 y9 ya yb fz HST g1 e0 e1 e2 e3 e4 e5 e6 d0 d1 d2 d3 d4 d5 d6 d7 d8 d9 da db HP
        generalize ((((((((((((w6.setCell ⟨b, 0, none⟩ (.int .i64 y.s)).setCell ⟨b, 1, none⟩ (.int .i64 y.a)).setCell ⟨b, 2, none⟩ (.int .i64 y.ms)).setCell ⟨b, 3, none⟩ (.int .i64 y.ps)).setCell ⟨b, 4, none⟩ (.int .i64 y.pa)).setCell ⟨b, 5, none⟩ (.int .i64 y.units)).setCell ⟨b, 6, none⟩ (.int .i64 y.polls)).setCell ⟨b, 7, none⟩ (.int .i64 (y.most : Int))).setCell ⟨b, 8, none⟩ (.slice P6.W y.wait.length P6.cw)).setCell ⟨b, 9, none⟩ (.slice P6.K y.kept.length P6.ck)).setCell ⟨b, 10, none⟩ (.slice P6.L y.last.length P6.cl)).setCell ⟨b, 11, none⟩ (.slice P6.G y.again.length P6.cg)) = w7 at *
        have HV := Lib.hid HP6.out.vars
        have hb1 := HOY.out.bounds
        have hb1 : (y.s % 16777216 - y.a % 16777216) % 16777216 = (y.kept.length : Int) ∧ (y.s % 16777216 - y.a % 16777216) % 16777216 ≤ (y.ms % 16777216 - y.a % 16777216) % 16777216 ∧ (y.ms % 16777216 - y.a % 16777216) % 16777216 ≤ 8388608 ∧ (y.ps % 16777216 - y.pa % 16777216) % 16777216 = y.ps - y.pa := hb1
        have hpp : y.ps - y.pa ≤ 80 := by have h1 := HOY.out.lpa; have h2 := HOY.out.phi; omega
        have hwl : y.wait.length ≤ 20 := by have h1 := HOY.out.wlen; have h2 := HMY.out; omega
        have HT1 : Hid (∀ W, Calls Tryz.prog 14 #[.int .u32 (y.a % 16777216), .int .u32 (y.s % 16777216)] W fun e w' => e = .returned (.int .i64 (y.kept.length : Int)) ∧ w' = W) := fun W => by
          have := to_any (y.a % 16777216) (y.s % 16777216) W
          rwa [hb1.1] at this
        obtain ⟨sm, hsm⟩ : ∃ sm, (y.ms % 16777216 - y.a % 16777216) % 16777216 = sm := ⟨_, rfl⟩
        obtain ⟨pp, hppe⟩ : ∃ pp, y.ps - y.pa = pp := ⟨_, rfl⟩
        have HT2 : Hid (∀ W, Calls Tryz.prog 14 #[.int .u32 (y.a % 16777216), .int .u32 (y.ms % 16777216)] W fun e w' => e = .returned (.int .i64 sm) ∧ w' = W) := fun W => by
          have := to_any (y.a % 16777216) (y.ms % 16777216) W
          rwa [hsm] at this
        have HT3 : Hid (∀ W, Calls Tryz.prog 14 #[.int .u32 (y.pa % 16777216), .int .u32 (y.ps % 16777216)] W fun e w' => e = .returned (.int .i64 pp) ∧ w' = W) := fun W => by
          have := to_any (y.pa % 16777216) (y.ps % 16777216) W
          rwa [hb1.2.2.2, hppe] at this
        have HT4 : Hid (∀ (j : Nat), j < y.again.length → (0 ≤ y.again.getD j 0 - y.a ∧ y.again.getD j 0 - y.a < (y.kept.length : Int)) ∧ ∀ W, Calls Tryz.prog 14 #[.int .u32 (y.a % 16777216), .int .u32 (y.again.getD j 0 % 16777216)] W fun e w' => e = .returned (.int .i64 (y.again.getD j 0 - y.a)) ∧ w' = W) := fun j hj => by
          have h1 := HOY.out.ags (y.again.getD j 0) (by
            have e : y.again.getD j 0 = y.again[j] := by simp [List.getD, List.getElem?_eq_getElem hj]
            rw [e]
            exact List.getElem_mem _)
          have h2 := HOY.out.klen
          have h3 := HOY.out.kl
          refine ⟨by omega, fun W => ?_⟩
          have := to_any (y.a % 16777216) (y.again.getD j 0 % 16777216) W
          rwa [show (y.again.getD j 0 % 16777216 - y.a % 16777216) % 16777216 = y.again.getD j 0 - y.a by omega] at this
        have HPW : Hid (∀ j i : Nat, j < i → i < y.again.length → y.again.getD j 0 - y.a < y.again.getD i 0 - y.a) := fun j i h1 h2 => by
          have := HOY.out.last_pw h1 h2
          omega
        have hk1s : (y.kept.length : Int) ≤ sm := by omega
        have hk2s : sm ≤ 8388608 := by omega
        have hk3s : pp ≤ 80 := by omega
        clear hb1 hpp hppe hsm
        have hag : y.again.length ≤ 4000 := by have h1 := HOY.out.again_len; have h2 := HOY.out.kl; omega
        generalize y.s % 16777216 = ns at *
        generalize y.a % 16777216 = na at *
        generalize y.ms % 16777216 = nm at *
        generalize y.ps % 16777216 = np at *
        generalize y.pa % 16777216 = na2 at *
        go_wp2_with fail
        refine HV.out.mono ?_
        rintro e w8 ⟨A8, c8, rfl, m8⟩
        have HV8 : Hid (Blk (w8.alloc (.cells #[.int .u32 ns, .int .u32 na, .int .u32 nm, .int .u32 np, .int .u32 na2, .int .i64 y.units, .int .i64 (y.wait.length : Int), .int .i64 (y.kept.length : Int), .slice A8 y.again.length c8] 43)) w8.heap.size 43 [.int .u32 ns, .int .u32 na, .int .u32 nm, .int .u32 np, .int .u32 na2, .int .i64 y.units, .int .i64 (y.wait.length : Int), .int .i64 (y.kept.length : Int), .slice A8 y.again.length c8]) := Blk.new w8 _ [.int .u32 ns, .int .u32 na, .int .u32 nm, .int .u32 np, .int .u32 na2, .int .i64 y.units, .int .i64 (y.wait.length : Int), .int .i64 (y.kept.length : Int), .slice A8 y.again.length c8]
        have F8 : Hid (Fresh w7 (w8.alloc (.cells #[.int .u32 ns, .int .u32 na, .int .u32 nm, .int .u32 np, .int .u32 na2, .int .i64 y.units, .int .i64 (y.wait.length : Int), .int .i64 (y.kept.length : Int), .slice A8 y.again.length c8] 43))) := m8.fresh.alloc _
        have SL8 : Hid (Sl numE (w8.alloc (.cells #[.int .u32 ns, .int .u32 na, .int .u32 nm, .int .u32 np, .int .u32 na2, .int .i64 y.units, .int .i64 (y.wait.length : Int), .int .i64 (y.kept.length : Int), .slice A8 y.again.length c8] 43)) A8 c8 (Sf.pa y.again)) := m8.sl.alloc _
        clear m8 HV
        simp only
        go_upto_region 11 with (fail)
        generalize w8.alloc (.cells #[.int .u32 ns, .int .u32 na, .int .u32 nm, .int .u32 np, .int .u32 na2, .int .i64 y.units, .int .i64 (y.wait.length : Int), .int .i64 (y.kept.length : Int), .slice A8 y.again.length c8] 43) = w9 at *
        have v0 : w9.cell? ⟨w8.heap.size, 0, none⟩ = some (.int .u32 ns) := HV8.out.cell 0
        have v1 : w9.cell? ⟨w8.heap.size, 1, none⟩ = some (.int .u32 na) := HV8.out.cell 1
        have v2 : w9.cell? ⟨w8.heap.size, 2, none⟩ = some (.int .u32 nm) := HV8.out.cell 2
        have v3 : w9.cell? ⟨w8.heap.size, 3, none⟩ = some (.int .u32 np) := HV8.out.cell 3
        have v4 : w9.cell? ⟨w8.heap.size, 4, none⟩ = some (.int .u32 na2) := HV8.out.cell 4
        have v6 : w9.cell? ⟨w8.heap.size, 6, none⟩ = some (.int .i64 (y.wait.length : Int)) := HV8.out.cell 6
        have v7 : w9.cell? ⟨w8.heap.size, 7, none⟩ = some (.int .i64 (y.kept.length : Int)) := HV8.out.cell 7
        have v8 : w9.cell? ⟨w8.heap.size, 8, none⟩ = some (.slice A8 y.again.length c8) := HV8.out.cell 8
        have hkk : ((y.kept.length : Int) == (y.kept.length : Int)) = true := by simp
        have hg1 : ¬ sm < (y.kept.length : Int) := by omega
        have hg2 : ¬ (8388608 : Int) < sm := by omega
        have hg3 : ¬ (80 : Int) < pp := by omega
        have hg4 : ¬ (20 : Int) < (y.wait.length : Int) := by omega
        go_wp2_with fail
        go_quiet ((first
          | (go_at_call 14; with_reducible exact Calls.quiet_of_same (HT1.out _))
          | (go_at_call 14; with_reducible exact Calls.quiet_of_same (HT2.out _))
          | (go_at_call 14; with_reducible exact Calls.quiet_of_same (HT3.out _))))
        have F10 : Hid (Fresh w7 (w9.drewN nq)) := F8.out.drewN nq
        have S10 : Hid (Sl numE (w9.drewN nq) A8 c8 (Sf.pa y.again)) := SL8.out
        have V10 : Hid (Blk (w9.drewN nq) w8.heap.size 43 [.int .u32 ns, .int .u32 na, .int .u32 nm, .int .u32 np, .int .u32 na2, .int .i64 y.units, .int .i64 (y.wait.length : Int), .int .i64 (y.kept.length : Int), .slice A8 y.again.length c8]) := HV8.out
        clear v0 v1 v2 v3 v4 v6 v7 v8 F8 SL8 HV8 HT1 HT2 HT3 hg1 hg2 hg3 hg4 hkk
        generalize w9.drewN nq = w10 at *
        have HP8 := Lib.hid (HP6.out.old F10.out)
        clear HP6 F10
        have v1 : w10.cell? ⟨w8.heap.size, 1, none⟩ = some (.int .u32 na) := V10.out.cell 1
        have v7 : w10.cell? ⟨w8.heap.size, 7, none⟩ = some (.int .i64 (y.kept.length : Int)) := V10.out.cell 7
        have v8 : w10.cell? ⟨w8.heap.size, 8, none⟩ = some (.slice A8 y.again.length c8) := V10.out.cell 8
        go_wp2_with fail
        go_loopw [9, 89] (fun s9 s89 wx => ∃ (j : Nat) (last : Int), j ≤ y.again.length ∧ s89 = .int .i64 j ∧ s9 = .int .i64 last ∧ wx = w10 ∧ Hid (∀ i : Nat, j ≤ i → i < y.again.length → last < y.again.getD i 0 - y.a)) (fun _ s89 _ => y.again.length - (intOf s89).toNat)
        case atStart => exact ⟨0, -1, by omega, rfl, rfl, rfl, fun i _ h => by have := (HT4.out i h).1; omega⟩
        case round =>
          obtain ⟨j, last, hj, rfl, rfl, rfl, HLA⟩ := hrel
          by_cases hlt : j < y.again.length
          · have hj1 : (j : Int) < (y.again.length : Int) := by omega
            have hj0 : (0 : Int) ≤ (j : Int) := by omega
            have hlt2 : j < (Sf.pa y.again).length := by simp [Sf.pa]; omega
            obtain ⟨g, o, hge, _, cz⟩ := S10.out.num_at j hlt2
            have e1 : (Sf.pa y.again).getD j 0 = y.again.getD j 0 % 16777216 := by simp [Sf.pa, List.getD, List.getElem?_eq_getElem hlt]
            rw [e1] at cz
            obtain ⟨hd0, HTj⟩ := HT4.out j hlt
            have HTJ := Lib.hid HTj
            have hd1 := HLA.out j (by omega) hlt
            have HNX := Lib.hid (fun i h => HPW.out j i h)
            clear HTj
            generalize y.again.getD j 0 % 16777216 = nj at *
            generalize y.again.getD j 0 - y.a = dj at *
            have hq1 : ¬ dj ≤ last := by omega
            have hq2 : ¬ (y.kept.length : Int) ≤ dj := by omega
            rw [hge] at v8 ⊢
            clear e1 hge
            go_wp2_with fail
            refine (HTJ.out _).mono ?_
            rintro e w11 ⟨rfl, rfl⟩
            simp only
            go_wp2
            go_roundw
            case rel => exact ⟨j + 1, dj, hlt, by go_num, (by first | rfl | trivial), (by first | rfl | trivial), fun i h1 h2 => HNX.out i (by omega) h2⟩
            case measure => simp [intOf]; omega
          · obtain rfl : j = y.again.length := by omega
            have hj1 : ¬ ((y.again.length : Nat) : Int) < (y.again.length : Int) := by omega
            go_wp2
            go_roundw
            case rel => exact ⟨k + 1, F6, D6, P6, y, hi + 4, by omega, by omega, by go_num, HP8, by omega, HOY, HMY⟩
            case measure => simp [intOf]; omega
    · have FF := Lib.hid HP.out.fresh
      by_cases h1 : k < l.length
      · have hk1' : (k : Int) < (l.length : Int) := by omega
        have hdk1 : decide ((k : Int) < (l.length : Int)) = true := decide_eq_true hk1'
        have hk2' : ¬ (k : Int) < 80 := by omega
        have hdk2 : decide ((k : Int) < 80) = false := decide_eq_false hk2'
        clear HP
        go_wp2
        go_ret
        exact ⟨rfl, FF.out.below (Nat.le_refl _) (fun _ _ h => h)⟩
      · have hk1' : ¬ (k : Int) < (l.length : Int) := by omega
        have hdk1 : decide ((k : Int) < (l.length : Int)) = false := decide_eq_false hk1'
        clear HP
        go_wp2
        go_ret
        exact ⟨rfl, FF.out.below (Nat.le_refl _) (fun _ _ h => h)⟩

set_option maxRecDepth 10000 in
theorem sendBounds.walk (start : Int) (v : Value) (w : World) (_h0 : (Lit.int .i64 start).wf = true) {H : Type} {enc : TypeId × Value → H} {b0 : Nat} {d : DataW H} {p : List MemPlace} (hv : Value.okWide Tryz.prog w .any b0 22 v) (h : DataW.Trod enc Tryz.prog w 0 (fun _ => true) true 22 v d p) :
    Calls Tryz.prog 4 #[.int .i64 start, v] w fun e w' => e = .returned (.bool true) ∧ Below w.heap.size w w' := by
  obtain ⟨A, c, l, rfl, hr, hg⟩ := open_rd_act11 hv h
  exact sendBounds.core start A c l w hr hg
end Go.Proofs.YtajdnllkkekmnaaGreat

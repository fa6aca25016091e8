/-
  SendPlays: behind any calls a sender is what the document says; one just like it goes its own way.
-/
import Derived.Test.YtajdnllkkekmnaaGreatPl11
import Derived.Deep.RegionLaw
namespace Go.Proofs.YtajdnllkkekmnaaGreat
open Go.RowKit Go.ChangeShapes Go.WideShapes Go.ChangeAt

set_option maxHeartbeats 8000000 in
set_option maxRecDepth 4000 in
theorem sendPlays.core (start queue : Int) (A0 : Option Addr) (c0' : Nat) (l : List Act11b) (w : World) (h : Rd act11E w A0 c0' l) (hl : ∀ a ∈ l, a.Good w) :
    Calls Tryz.prog 3 #[.int .i64 start, .int .i64 queue, .slice A0 l.length c0'] w fun e w' => e = .returned (.bool true) ∧ Below w.heap.size w w' := by
  have hlc := h.1
  have hcm := h.2.1
  unfold maxLen at hcm
  have HR := Lib.hid h
  have HS := Lib.hid hl
  clear h hl
  have HSO := Lib.hid (sof_any start)
  obtain ⟨q3, hq3⟩ : ∃ q3, q3 = queue / 8 := ⟨_, rfl⟩
  have HNW : Hid (∀ W, Fresh w W → Calls Tryz.prog 8 #[.int .u32 (start % 16777216), .int .i64 queue, .int .i64 q3] W fun e w' => ∃ p, e = .returned (.pointer (some ⟨p, 0, none⟩)) ∧ OwnSend w w' p (Sf.prog (Sf.new start queue q3))) := fun W hf => onew (start % 16777216) queue q3 hf (Sd.new_mod start queue q3)
  have HRN := Lib.hid (fun W => sfnew_any start queue q3 W)
  have HPN := Lib.hid (fun (W : World) (p : Nat) (h : OwnSend w W p (Sf.prog (Sf.new start queue q3))) => PlSt11.new h)
  unfold sfV at HRN
  generalize Sf.new start queue q3 = x0 at *
  rw [hq3] at HNW HRN
  clear hq3 q3
  have hsn : 0 ≤ start % 16777216 ∧ start % 16777216 < 16777216 := by omega
  generalize start % 16777216 = s0 at *
  go_enter Tryz.func3, Tryz.ntmps3
  go_wp2_with fail
  refine (awake11 w).mono ?_
  rintro e w1 ⟨rfl, f1⟩
  have F1 := Lib.hid f1
  clear f1
  simp only
  go_wp2_with fail
  refine (HSO.out w1).mono ?_
  rintro e w2 ⟨rfl, rfl⟩
  simp only
  go_wp2_with fail
  refine (HNW.out w2 F1.out).mono ?_
  rintro e w3 ⟨p, rfl, o3⟩
  have O3 := Lib.hid o3
  clear o3 HNW
  simp only
  go_wp2_with fail
  refine (HRN.out w3).mono ?_
  rintro e w4 ⟨rfl, f4⟩
  have O4 := Lib.hid (O3.out.old f4)
  clear f4 O3 HRN
  simp only
  have PL := Lib.hid (HPN.out w4 p O4.out)
  clear O4 HPN F1
  go_wp2_with fail
  generalize World.alloc w4 _ = w5 at *
  obtain ⟨b, hb⟩ : ∃ b, b = w4.heap.size := ⟨_, rfl⟩
  rw [← hb] at PL ⊢
  generalize (fun k => w.heap.size ≤ k ∧ k < b) = F0 at PL
  clear hb
  go_loopw [10] (fun i wr => ∃ (k : Nat) (F D : Nat → Prop) (P : SfP) (x : Sf.S) (hi : Int), k ≤ l.length ∧ k ≤ 80 ∧ i = .int .i64 k ∧ Hid (PlSt11 w wr p b F D P x s0 hi) ∧ hi = s0 + 4 * (k : Int)) (fun i _ => l.length - (intOf i).toNat)
  case atStart => exact ⟨0, F0, _, _, _, s0, by omega, by omega, rfl, PL, by omega⟩
  case round =>
    clear PL
    obtain ⟨k, F, D, P, x, hi, hk, hk80, rfl, HP, hhi⟩ := hrel
    have hcont : (k < l.length ∧ k < 80) ∨ ¬ (k < l.length ∧ k < 80) := Decidable.em _
    rcases hcont with ⟨hk1, hk2⟩ | hstop
    · have hk1' : (k : Int) < (l.length : Int) := by omega
      have hdk1 : decide ((k : Int) < (l.length : Int)) = true := decide_eq_true hk1'
      have hk2' : (k : Int) < 80 := by omega
      have hdk2 : decide ((k : Int) < 80) = true := decide_eq_true hk2'
      have hk0 : (0 : Int) ≤ (k : Int) := by omega
      obtain ⟨z, hz⟩ : ∃ z, l.getD k Act11b.none = z := ⟨_, rfl⟩
      have HG := Lib.hid (Act11b.good_at HS.out HP.out.fresh k hk1 hz)
      obtain ⟨ga, oa, rfl, _, e0, e1, e2, e3, e4, e5, e6⟩ := (HR.out.touch HP.out.fresh (fun _ _ _ h => h)).act11_at k hk1 hz
      clear hz
      obtain ⟨⟨ak, ar, am, aps, al, araw, aM⟩, zA, zc⟩ := z
      obtain ⟨y, hy⟩ : ∃ y, Sf.step x ⟨ak, ar, am, aps, al, araw, aM⟩ (cut5 aM) = y := ⟨_, rfl⟩
      obtain ⟨d0, d1, d2, d3, d4, d5, d6, d7, d8, d9, da, db⟩ := HP.out.cells
      have HST := Lib.hid (fun W (hf : Fresh wr W) => plstep11 (HP.out.old hf) _ zA zc (HG.out.1.touch hf (fun _ _ _ h => h)) HG.out.2.1 HG.out.2.2 (by omega) hy)
      clear hy HG
      simp only at HST e0 e1 e2 e3 e4 e5 e6
      have g1 : Fresh wr wr.drew := (Touch.refl _ _).drew
      generalize al.length = aln at *
      go_upto_region 10 with (fail)
      go_region_law (go_simp; go_at_call 11; refine (HST.out _ (by assumption)).mono ?_; rintro e' w6 ⟨F6, D6, P6, rfl, ⟨fz, y0, y1, y2, y3, y4, y5, y6, y7, y8, y9, ya, yb⟩, hp6, _⟩; have HP6 := Lib.hid hp6; clear hp6)
      all_goals
        clear y0 y1 y2 y3 y4 y5 y6 y7 y8 y9 ya yb fz HST g1 e0 e1 e2 e3 e4 e5 e6 d0 d1 d2 d3 d4 d5 d6 d7 d8 d9 da db HP
        generalize ((((((((((((w6.setCell ⟨b, 0, none⟩ (.int .i64 y.s)).setCell ⟨b, 1, none⟩ (.int .i64 y.a)).setCell ⟨b, 2, none⟩ (.int .i64 y.ms)).setCell ⟨b, 3, none⟩ (.int .i64 y.ps)).setCell ⟨b, 4, none⟩ (.int .i64 y.pa)).setCell ⟨b, 5, none⟩ (.int .i64 y.units)).setCell ⟨b, 6, none⟩ (.int .i64 y.polls)).setCell ⟨b, 7, none⟩ (.int .i64 (y.most : Int))).setCell ⟨b, 8, none⟩ (.slice P6.W y.wait.length P6.cw)).setCell ⟨b, 9, none⟩ (.slice P6.K y.kept.length P6.ck)).setCell ⟨b, 10, none⟩ (.slice P6.L y.last.length P6.cl)).setCell ⟨b, 11, none⟩ (.slice P6.G y.again.length P6.cg)) = w7 at *
        have HIS := Lib.hid (is11_any p F6 P6 y s0 (hi + 4) HP6.out.st.ok w7 HP6.out.st.send HP6.out.st.ins)
        unfold sfV at HIS
        obtain ⟨d0, d1, d2, d3, d4, d5, d6, d7, d8, d9, da, db⟩ := HP6.out.cells
        go_wp2_with fail
        refine HIS.out.mono ?_
        rintro e w8 ⟨rfl, f8⟩
        have HP8 := Lib.hid (HP6.out.old f8)
        clear f8 HP6 HIS d0 d1 d2 d3 d4 d5 d6 d7 d8 d9 da db
        simp only
        go_wp2
        go_roundw
        case rel => exact ⟨k + 1, F6, D6, P6, y, hi + 4, by omega, by omega, by go_num, HP8, by omega⟩
        case measure => simp [intOf]; omega
    · have FF := Lib.hid HP.out.fresh
      by_cases h1 : k < l.length
      · have hk1' : (k : Int) < (l.length : Int) := by omega
        have hdk1 : decide ((k : Int) < (l.length : Int)) = true := decide_eq_true hk1'
        have hk2' : ¬ (k : Int) < 80 := by omega
        have hdk2 : decide ((k : Int) < 80) = false := decide_eq_false hk2'
        clear HP
        go_wp2
        go_ret
        exact ⟨rfl, FF.out.below (Nat.le_refl _) (fun _ _ h => h)⟩
      · have hk1' : ¬ (k : Int) < (l.length : Int) := by omega
        have hdk1 : decide ((k : Int) < (l.length : Int)) = false := decide_eq_false hk1'
        clear HP
        go_wp2
        go_ret
        exact ⟨rfl, FF.out.below (Nat.le_refl _) (fun _ _ h => h)⟩

set_option maxRecDepth 10000 in
theorem sendPlays.walk (start queue : Int) (v : Value) (w : World) (_h0 : (Lit.int .i64 start).wf = true) (_h1 : (Lit.int .i64 queue).wf = true) {H : Type} {enc : TypeId × Value → H} {b0 : Nat} {d : DataW H} {p : List MemPlace} (hv : Value.okWide Tryz.prog w .any b0 22 v) (h : DataW.Trod enc Tryz.prog w 0 (fun _ => true) true 22 v d p) :
    Calls Tryz.prog 3 #[.int .i64 start, .int .i64 queue, v] w fun e w' => e = .returned (.bool true) ∧ Below w.heap.size w w' := by
  obtain ⟨A, c, l, rfl, hr, hg⟩ := open_rd_act11 hv h
  exact sendPlays.core start queue A c l w hr hg
end Go.Proofs.YtajdnllkkekmnaaGreat

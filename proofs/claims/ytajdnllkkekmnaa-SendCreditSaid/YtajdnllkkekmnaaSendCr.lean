/-
  SendCredit: as many new ones go out as there is credit for, and no more; more credit lets more go.
-/
import Derived.Test.YtajdnllkkekmnaaSndAw
import Derived.Test.YtajdnllkkekmnaaOpen
import Derived.Test.YtajdnllkkekmnaaNum
namespace Go.Proofs.Ytajdnllkkekmnaa
open Go.RowKit Go.ChangeShapes Go.WideShapes Go.ChangeAt

set_option maxHeartbeats 8000000 in
set_option maxRecDepth 4000 in
theorem sendCredit.core (start : Int) (A : Option Addr) (c : Nat) (l : List Int) (w : World) (h : Rd intE w A c l) :
    Calls Try.prog 3 #[.int .i64 start, .slice A l.length c] w fun e w' => e = .returned (.bool true) ∧ Below w.heap.size w w' := by
  have hlc := h.1
  have hcm := h.2.1
  unfold maxLen at hcm
  have H := Lib.hid h
  clear h
  go_enter Try.func3, Try.ntmps3
  go_wp2_with fail
  refine (awake11 w).mono ?_
  rintro e w1 ⟨rfl, f1⟩
  have FW : Hid (Fresh w w1) := f1
  replace H := Lib.hid (H.out.touch f1 (fun _ _ _ h => h))
  clear f1
  simp only
  go_wp2_with fail
  refine (sof_any start w1).mono ?_
  rintro e w2 ⟨rfl, rfl⟩
  have HFULL := Lib.hid (Sd.Cr.full start { data := #[109] })
  simp only
  go_wp2_with fail
  refine (onew (start % 16777216) 256 256 (Touch.refl _ w2) (st := Sd.full (start % 16777216) { data := #[109] } 0) rfl).mono ?_
  rintro e w3 ⟨p, rfl, h3⟩
  have H3 := Lib.hid h3
  clear h3
  have HPUT := Lib.hid (Sd.full_put (start % 16777216) { data := #[109] })
  have HSO := Lib.hid (sof_any start)
  obtain ⟨s0, hs0⟩ : ∃ s0, s0 = start % 16777216 := ⟨_, rfl⟩
  rw [← hs0] at H3 HPUT HFULL HSO
  have hsb : 0 ≤ s0 ∧ s0 < 16777216 := by omega
  have HS0 := Lib.hid hs0
  clear hs0
  simp only
  go_wp2_with fail
  go_loopw [25] (fun i wr => ∃ k : Nat, k ≤ 256 ∧ i = .int .i64 k ∧ Hid (OwnSend w2 wr p (Sd.full s0 { data := #[109] } k))) (fun i _ => 256 - (intOf i).toNat)
  case atStart => exact ⟨0, by omega, rfl, H3⟩
  case round =>
    clear H3
    obtain ⟨k, hk, rfl, HO⟩ := hrel
    by_cases hlt : k < 256
    · have hk1 : (k : Int) < 256 := by omega
      obtain ⟨q1, q2⟩ := HPUT.out k hlt
      have HP := Lib.hid (oput { data := #[109] } HO.out (if_pos q1) q2)
      clear q1 q2
      go_wp2_with fail
      refine HP.out.mono ?_
      rintro e w4 ⟨rfl, h4⟩
      have H4 := Lib.hid h4
      clear h4 HP HO
      simp only
      go_wp2
      go_roundw
      case rel => exact ⟨k + 1, by omega, by go_num, H4⟩
      case measure => simp [intOf]; omega
    · obtain rfl : k = 256 := by omega
      clear hlt hk
      rw [show ((256 : Nat) : Int) = 256 from rfl]
      have HO2 := HO
      clear HPUT HO
      go_wp2_with fail
      obtain ⟨wb, hwb⟩ : ∃ wb, wb = wr := ⟨_, rfl⟩
      subst hwb
      go_loopw [6, 7, 8] (fun s6 s7 i wr => ∃ (k m : Nat) (st : Sd.S), k ≤ l.length ∧ i = .int .i64 k ∧ s6 = .int .i64 m ∧ s7 = .int .i64 m ∧ m ≤ 255 ∧ Hid (Sd.Cr start { data := #[109] } m m st) ∧ Hid (OwnSend w2 wr p st)) (fun _ _ i _ => l.length - (intOf i).toNat)
      case atStart => exact ⟨0, 0, _, by omega, rfl, rfl, rfl, by omega, HFULL, HO2⟩
      case round =>
        clear HO2 HFULL
        obtain ⟨k, m, st, hkl, rfl, rfl, rfl, hm, HC, HO⟩ := hrel
        have hcont : (k < l.length ∧ k < 20) ∨ ¬ (k < l.length ∧ k < 20) := Decidable.em _
        rcases hcont with ⟨hk, hk20⟩ | hstop
        · have hk1 : (k : Int) < (l.length : Int) := by omega
          have hdk1 : decide ((k : Int) < (l.length : Int)) = true := decide_eq_true hk1
          have hk2 : (k : Int) < 20 := by omega
          have hdk2 : decide ((k : Int) < 20) = true := decide_eq_true hk2
          have hk0 : (0 : Int) ≤ (k : Int) := by omega
          obtain ⟨g, o, rfl, _, c0⟩ := (H.out.touch HO.out.fresh (fun _ _ _ h => h)).int_at k hk
          have hand := and_255 (l.getD k 0)
          generalize l.getD k 0 = y at *
          obtain ⟨x, hx⟩ : ∃ x : Nat, y % 256 = (x : Int) := ⟨(y % 256).toNat, by omega⟩
          have hxb : x ≤ 255 := by omega
          rw [hx] at hand
          clear hx
          go_upto_region 16 with (fail)
          clear hand
          go_wp2_with fail
          refine (HSO.out _).mono ?_
          rintro e w4 ⟨rfl, rfl⟩
          simp only
          go_wp2_with fail
          refine (sadd_any s0 x w4).mono ?_
          rintro e w5 ⟨rfl, rfl⟩
          have HC2 := Lib.hid (HC.out.opn x hxb)
          rw [← HS0.out] at HC2
          have HOP := Lib.hid (oopn ((s0 + (x : Int)) % 16777216) HO.out rfl)
          generalize Sd.opn st ((s0 + (x : Int)) % 16777216) = st2 at *
          generalize (s0 + (x : Int)) % 16777216 = z at *
          clear HO HC
          simp only
          go_wp2_with fail
          refine HOP.out.mono ?_
          rintro e w6 ⟨rfl, h6⟩
          have H6 := Lib.hid h6
          clear h6 HOP
          simp only
          have hmx : (if (m : Int) < (x : Int) then (x : Int) else (m : Int)) = ((max m x : Nat) : Int) := by split <;> omega
          have hmx2 : (if m < x then (x : Int) else (m : Int)) = ((max m x : Nat) : Int) := by split <;> omega
          have hle : m ≤ max m x := Nat.le_max_left _ _
          have hle2 : max m x ≤ 255 := by omega
          generalize max m x = mm at *
          go_wp2_with fail
          obtain ⟨wc, hwc⟩ : ∃ wc, wc = w6 := ⟨_, rfl⟩
          subst hwc
          go_loopw [7] (fun s7 wr => ∃ (n : Nat) (st : Sd.S), n ≤ mm ∧ s7 = .int .i64 n ∧ Hid (Sd.Cr start { data := #[109] } n mm st) ∧ Hid (OwnSend w2 wr p st)) (fun s7 _ => mm - (intOf s7).toNat)
          case atStart => exact ⟨m, st2, hle, rfl, HC2, H6⟩
          case round =>
            clear H6 HC2
            obtain ⟨n, st3, hn, rfl, HC, HO⟩ := hrel
            by_cases hnm : n < mm
            · have hnm1 : (n : Int) < (mm : Int) := by omega
              have HNX := Lib.hid (onext_new HO.out HC.out.again (HC.out.goes hnm) HC.out.q_cons (by rw [HC.out.units]; omega) (s := (s0 + (n : Int)) % 16777216) (by rw [HC.out.s, HS0.out]; omega) rfl)
              have HC2 := Lib.hid (HC.out.goOn hnm)
              generalize Sd.new1 st3 _ _ = st4 at *
              clear HC HO hnm
              go_wp2_with fail
              refine HNX.out.mono ?_
              rintro e w7 ⟨rfl, h7⟩
              have H7 := Lib.hid h7
              clear h7 HNX
              simp only
              go_wp2_with fail
              refine (HSO.out _).mono ?_
              rintro e w8 ⟨rfl, rfl⟩
              simp only
              go_wp2_with fail
              refine (sadd_any s0 n w8).mono ?_
              rintro e w9 ⟨rfl, rfl⟩
              generalize (s0 + (n : Int)) % 16777216 = z2 at *
              have hzz : (z2 != z2) = false := by simp
              simp only
              go_wp2
              go_roundw
              case rel => exact ⟨n + 1, st4, by omega, by go_num, HC2, H7⟩
              case measure => simp [intOf]; omega
            · obtain rfl : n = mm := by omega
              have hnm1 : ¬ (n : Int) < (n : Int) := by omega
              have HST := Lib.hid (onext_stop HO.out HC.out.again (HC.out.stop rfl))
              have hql : st3.q.length = 256 - n := by rw [HC.out.q, List.length_replicate]
              have HB : Hid ((decide (0 < st3.q.length) && (st3.s == st3.ms)) = true) := by
                unfold Hid
                rw [hql, HC.out.stop rfl, decide_eq_true (by omega)]
                simp
              have hag : Hid (st3.again.length ≤ 16777216) := by unfold Hid; rw [HC.out.again]; simp
              have hml := HC.out.len
              clear hnm HO
              go_wp2_with fail
              refine HST.out.mono ?_
              rintro e w7 ⟨rfl, h7⟩
              have HL := Lib.hid (olacks h7 HB.out)
              clear h7 HST
              simp only
              go_wp2_with fail
              refine HL.out.mono ?_
              rintro e w8 ⟨rfl, h8⟩
              have HV := Lib.hid (ovars h8 hag.out)
              clear h8 HL
              simp only
              go_wp2_with fail
              refine HV.out.mono ?_
              rintro e w9 ⟨A9, c9, rfl, h9, _⟩
              have H9 := Lib.hid h9
              have hfd := vars_kept st3 A9 c9
              rw [hml] at hfd
              generalize Sd.varsV st3 A9 c9 = vv at *
              have hne : ((n : Int) != (n : Int)) = false := by simp
              clear h9 HV hml
              simp only
              go_wp2
              go_roundw
              case rel => exact ⟨k + 1, n, st3, by omega, by go_num, rfl, rfl, hle2, HC, H9⟩
              case measure => simp [intOf]; omega
        · have HV := Lib.hid (ovars HO.out (by rw [HC.out.again]; simp))
          have hql : ((st.q.length : Nat) : Int) = 256 - (m : Int) := by rw [HC.out.q, List.length_replicate]; omega
          have hee : (256 - (m : Int) == 256 - (m : Int)) = true := by simp
          have hdd : (¬ (k : Int) < (l.length : Int)) ∨ ((k : Int) < (l.length : Int) ∧ ¬ (k : Int) < 20) := by omega
          clear HO hstop
          rcases hdd with hk1 | ⟨hk1, hk2⟩
          · have hdk1 : decide ((k : Int) < (l.length : Int)) = false := decide_eq_false hk1
            go_wp2_with fail
            refine HV.out.mono ?_
            rintro e w9 ⟨A9, c9, rfl, h9, _⟩
            have FF := Lib.hid (FW.out.trans h9.fresh (fun _ _ h => h))
            have hfd := vars_queued st A9 c9
            rw [hql] at hfd
            generalize Sd.varsV st A9 c9 = vv at *
            clear h9 HV hql
            simp only
            go_wp2
            go_ret
            exact ⟨by first | rfl | simp, FF.out.below (Nat.le_refl _) (fun _ _ h => h)⟩
          · have hdk1 : decide ((k : Int) < (l.length : Int)) = true := decide_eq_true hk1
            have hdk2 : decide ((k : Int) < 20) = false := decide_eq_false hk2
            go_wp2_with fail
            refine HV.out.mono ?_
            rintro e w9 ⟨A9, c9, rfl, h9, _⟩
            have FF := Lib.hid (FW.out.trans h9.fresh (fun _ _ h => h))
            have hfd := vars_queued st A9 c9
            rw [hql] at hfd
            generalize Sd.varsV st A9 c9 = vv at *
            clear h9 HV hql
            simp only
            go_wp2
            go_ret
            exact ⟨by first | rfl | simp, FF.out.below (Nat.le_refl _) (fun _ _ h => h)⟩

set_option maxRecDepth 10000 in
theorem sendCredit.walk (start : Int) (v : Value) (w : World) (_h0 : (Lit.int .i64 start).wf = true) {H : Type} {enc : TypeId × Value → H} {b0 : Nat} {d : DataW H} {p : List MemPlace} (hv : Value.okWide Try.prog w .any b0 22 v) (h : DataW.Trod enc Try.prog w 0 (fun _ => true) true 22 v d p) :
    Calls Try.prog 3 #[.int .i64 start, v] w fun e w' => e = .returned (.bool true) ∧ Below w.heap.size w w' := by
  obtain ⟨A, c, l, rfl, hr, _⟩ := open_rd_int hv h
  exact sendCredit.core start A c l w hr
end Go.Proofs.Ytajdnllkkekmnaa

/-
  SendStreams: of messages that go out, all of which are acknowledged, bit by bit, none is left, and they went in their order.
-/
import Derived.Test.YtajdnllkkekmnaaStrP
import Derived.Test.YtajdnllkkekmnaaOpen
import Derived.Test.YtajdnllkkekmnaaNum
namespace Go.Proofs.Ytajdnllkkekmnaa
open Go.RowKit Go.ChangeShapes Go.WideShapes Go.ChangeAt
set_option maxRecDepth 20000
set_option linter.constructorNameAsVariable false

theorem and_7s (a : Int) : bits .and .i64 a 7 = a % 8 := and_mask a 3 7 rfl (by omega)
theorem str_eqs {a b : ByteArray} (h : a = b) : (a.toList == b.toList) = true := by rw [h]; exact beq_self_eq_true _

set_option maxHeartbeats 16000000 in
set_option maxRecDepth 8000 in
theorem sendStreams.core (start : Int) (A : Option Addr) (c : Nat) (l : List ByteArray) (A2 : Option Addr) (c2 : Nat) (l2 : List Int) (w : World) (h : Rd strE w A c l) (hls : ∀ v ∈ l, v.size ≤ maxLen) (h2 : Rd intE w A2 c2 l2) :
    Calls Try.prog 4 #[.int .i64 start, .slice A l.length c, .slice A2 l2.length c2] w fun e w' => e = .returned (.bool true) ∧ Below w.heap.size w w' := by
  have hlc := h.1
  have hcm := h.2.1
  have hlc2 := h2.1
  have hcm2 := h2.2.1
  unfold maxLen at hcm hcm2
  have HR := Lib.hid h
  have HR2 := Lib.hid h2
  have HLS := Lib.hid hls
  clear h h2 hls
  have HSO := Lib.hid (sof_any start)
  have HNW : Hid (∀ W, Fresh w W → Calls Try.prog 6 #[.int .u32 (start % 16777216), .int .i64 256, .int .i64 256] W fun e w' => ∃ p, e = .returned (.pointer (some ⟨p, 0, none⟩)) ∧ OwnSend w w' p (Sf.prog (Sf.new start 256 256))) := fun W hf => onew (start % 16777216) 256 256 hf (Sf.new_mod2 start 256 256)
  have HOP : Hid (∀ W p, OwnSend w W p (Sf.prog (Sf.new start 256 256)) → Calls Try.prog 9 #[.pointer (some ⟨p, 0, none⟩), .int .u32 ((start % 16777216 + 200) % 16777216)] W fun e w' => e = .returned (.tuple #[]) ∧ OwnSend w w' p (Sf.prog (Sf.stB (start % 16777216) [] []))) := fun W p hW => oopn _ hW (Sf.stB_opn start)
  have hsn : 0 ≤ start % 16777216 ∧ start % 16777216 < 16777216 := by omega
  generalize start % 16777216 = s0 at *
  have HAD := Lib.hid (fun i W => sadd_any s0 i W)
  go_enter Try.func4, Try.ntmps4
  go_wp2_with fail
  refine (awake11 w).mono ?_
  rintro e w1 ⟨rfl, f1⟩
  have F1 := Lib.hid f1
  clear f1
  simp only
  go_wp2_with fail
  refine (HSO.out w1).mono ?_
  rintro e w2 ⟨rfl, rfl⟩
  simp only
  go_wp2_with fail
  refine (HNW.out w2 F1.out).mono ?_
  rintro e w3 ⟨p, rfl, o3⟩
  have O3 := Lib.hid o3
  clear o3 HNW F1
  simp only
  go_wp2_with fail
  refine (HSO.out w3).mono ?_
  rintro e w4 ⟨rfl, h4⟩
  have h4 := h4.symm
  subst h4
  simp only
  go_wp2_with fail
  refine (HAD.out 200 w3).mono ?_
  rintro e w4 ⟨rfl, h4⟩
  have h4 := h4.symm
  subst h4
  simp only
  go_wp2_with fail
  refine (HOP.out w3 p O3.out).mono ?_
  rintro e w4 ⟨rfl, o4⟩
  have O4 := Lib.hid o4
  clear o4 O3 HOP
  simp only
  obtain ⟨n, hn⟩ : ∃ n, min l.length 100 = n := ⟨_, rfl⟩
  have hn1 : min (l.length : Int) 100 = (n : Int) := by omega
  have hnl : n ≤ l.length := by omega
  have hn100 : n ≤ 100 := by omega
  clear hn
  have HV : Hid (∀ k, k < n → (l.take (k + 1)).map cut5 = (l.take k).map cut5 ++ [cut5 (l.getD k ByteArray.empty)]) := fun k hk => by
    rw [List.take_succ_eq_append_getElem (by omega), List.map_append]
    simp [List.getD, List.getElem?_eq_getElem (show k < l.length by omega)]
  have HVL : Hid (∀ k, k ≤ n → ((l.take k).map cut5).length = k) := fun k hk => by
    rw [List.length_map, List.length_take]
    omega
  have HW : Hid (∀ k, k < n → ((l.take n).drop k).map cut5 = cut5 (l.getD k ByteArray.empty) :: ((l.take n).drop (k + 1)).map cut5) := fun k hk => by
    rw [List.drop_eq_getElem_cons (by rw [List.length_take]; omega), List.map_cons]
    simp [List.getD, List.getElem?_eq_getElem (show k < l.length by omega)]
  have HCU : Hid (∀ k, k < n → ∀ W, Calls Try.prog 14 #[.string (l.getD k ByteArray.empty), .int .i64 5] W fun e w' => e = .returned (.string (cut5 (l.getD k ByteArray.empty))) ∧ w' = W) := fun k hk W => cut5_any _ W (HLS.out _ (by
    have e : l.getD k ByteArray.empty = l[k]'(by omega) := by simp [List.getD, List.getElem?_eq_getElem (show k < l.length by omega)]
    rw [e]
    exact List.getElem_mem _))
  go_upto_block 0 with (fail)
  clear hn1
  go_cut [] (fun wx => Hid (OwnSend w wx p (Sf.prog (Sf.stB s0 [] ((l.take n).map cut5)))))
  case first =>
    go_wp2_with fail
    go_loopw [39] (fun i wr => ∃ k : Nat, k ≤ n ∧ i = .int .i64 k ∧ Hid (OwnSend w wr p (Sf.prog (Sf.stB s0 [] ((l.take k).map cut5))))) (fun i _ => n - (intOf i).toNat)
    case atStart => exact ⟨0, by omega, rfl, O4⟩
    case round =>
      clear O4
      obtain ⟨k, hk, rfl, HO⟩ := hrel
      by_cases hlt : k < n
      · have hk1 : (k : Int) < (n : Int) := by omega
        have hk1b : (k : Int) < (l.length : Int) := by omega
        have hk0 : (0 : Int) ≤ (k : Int) := by omega
        obtain ⟨g, o, hAe, _, z0⟩ := (HR.out.touch HO.out.fresh (fun _ _ _ h => h)).str_at k (by omega)
        have HCk := Lib.hid (HCU.out k hlt)
        have HP : Hid (∀ W, OwnSend w W p (Sf.prog (Sf.stB s0 [] ((l.take k).map cut5))) → Calls Try.prog 8 #[.pointer (some ⟨p, 0, none⟩), .string (cut5 (l.getD k ByteArray.empty))] W fun e w' => e = .returned (.int .i64 0) ∧ OwnSend w w' p (Sf.prog (Sf.stB s0 [] ((l.take (k + 1)).map cut5)))) := fun W hW => by
          have hl := HVL.out k (by omega)
          refine oput _ hW (if_pos ?_) ?_
          · show ((l.take k).map cut5).length < 256
            omega
          · rw [Sf.prog_put, Sf.stB_put _ _ _ _ (by omega), HV.out k hlt]
        have HPk := Lib.hid (HP.out wr HO.out)
        clear HP HO
        generalize cut5 (l.getD k ByteArray.empty) = vc at *
        generalize l.getD k ByteArray.empty = v at *
        rw [hAe]
        have HAE := Lib.hid hAe
        clear hAe
        go_wp2_with fail
        refine (HCk.out wr).mono ?_
        rintro e w5 ⟨rfl, h5⟩
        have h5 := h5.symm
        subst h5
        simp only
        go_wp2_with fail
        refine HPk.out.mono ?_
        rintro e w6 ⟨rfl, o6⟩
        have O6 := Lib.hid o6
        clear o6 HPk z0
        simp only
        go_wp2
        go_roundw
        case rel => exact ⟨k + 1, hlt, by go_num, O6⟩
        case measure => simp [intOf]; omega
      · obtain rfl : k = n := by omega
        have hk1 : ¬ ((k : Nat) : Int) < (k : Int) := by omega
        go_wp2
        go_meet
        case rel => exact HO
  case rest =>
  clear O4
  have OA := hcut
  clear hcut
  have O5 : Hid (OwnSend w wc p (Sf.prog (Sf.stB s0 ((l.take 0).map cut5) (((l.take n).drop 0).map cut5)))) := OA
  clear OA HV
  have HV : Hid (∀ k, k < n → (l.take (k + 1)).map cut5 = (l.take k).map cut5 ++ [cut5 (l.getD k ByteArray.empty)]) := fun k hk => by
    rw [List.take_succ_eq_append_getElem (by omega), List.map_append]
    simp [List.getD, List.getElem?_eq_getElem (show k < l.length by omega)]
  go_upto_block 2 with (fail)
  go_cut [] (fun wx => Hid (OwnSend w wx p (Sf.prog (Sf.stB s0 ((l.take n).map cut5) []))))
  case first =>
    go_wp2_with fail
    go_loopw [52] (fun i wr => ∃ k : Nat, k ≤ n ∧ i = .int .i64 k ∧ Hid (OwnSend w wr p (Sf.prog (Sf.stB s0 ((l.take k).map cut5) (((l.take n).drop k).map cut5))))) (fun i _ => n - (intOf i).toNat)
    case atStart => exact ⟨0, by omega, rfl, O5⟩
    case round =>
      clear O5
      obtain ⟨k, hk, rfl, HO⟩ := hrel
      by_cases hlt : k < n
      · have hk1 : (k : Int) < (n : Int) := by omega
        have hk1b : (k : Int) < (l.length : Int) := by omega
        have hk0 : (0 : Int) ≤ (k : Int) := by omega
        have HCk := Lib.hid (HCU.out k hlt)
        have HN : Hid (Calls Try.prog 11 #[.pointer (some ⟨p, 0, none⟩)] wr fun e w' => e = .returned (.tuple #[.int .u32 ((s0 + (k : Int)) % 16777216), .string (cut5 (l.getD k ByteArray.empty)), .bool true, .bool true]) ∧ OwnSend w w' p (Sf.prog (Sf.stB s0 ((l.take (k + 1)).map cut5) (((l.take n).drop (k + 1)).map cut5)))) := by
          have hl := HVL.out k (by omega)
          have HO' := HO.out
          rw [HW.out k hlt] at HO'
          have hw : (((l.take n).drop (k + 1)).map cut5).length ≤ 100 := by simp; omega
          refine onext_new HO' rfl ?_ rfl ?_ ?_ ?_
          · show (s0 + (((l.take k).map cut5).length : Int)) % 16777216 ≠ (s0 + 200) % 16777216
            rw [hl]
            omega
          · show 0 ≤ (((l.take k).map cut5).length : Int) ∧ (((l.take k).map cut5).length : Int) < _
            omega
          · show (s0 + (((l.take k).map cut5).length : Int)) % 16777216 = _
            rw [hl]
          · rw [(Sf.stB_ok s0 ((l.take k).map cut5) (cut5 (l.getD k ByteArray.empty) :: ((l.take n).drop (k + 1)).map cut5) hsn (by omega) (by simp at hw ⊢; omega)).prog_fresh1, Sf.stB_next, HV.out k hlt]
        obtain ⟨g, o, hAe, _, z0'⟩ := (HR.out.touch HO.out.fresh (fun _ _ _ h => h)).str_at k (by omega)
        have HZ : Hid (∀ W, Fresh w W → W.cell? ⟨g, o + k, none⟩ = some (.string (l.getD k ByteArray.empty))) := fun W hf => by
          obtain ⟨g', o', hAe', _, z1⟩ := (HR.out.touch hf (fun _ _ _ h => h)).str_at k (by omega)
          rw [hAe] at hAe'
          cases hAe'
          exact z1
        clear HO z0'
        generalize cut5 (l.getD k ByteArray.empty) = vc at *
        generalize l.getD k ByteArray.empty = v at *
        have hvv : (vc.toList == vc.toList) = true := str_eqs rfl
        have HADk := Lib.hid (fun W => HAD.out (k : Int) W)
        generalize (s0 + (k : Int)) % 16777216 = sk at *
        have hss : (sk == sk) = true := by simp
        rw [hAe]
        have HAE := Lib.hid hAe
        clear hAe
        go_wp2_with fail
        refine HN.out.mono ?_
        rintro e w5 ⟨rfl, o5⟩
        have O5 := Lib.hid o5
        have z0 := HZ.out w5 o5.fresh
        clear o5 HN
        simp only
        go_wp2_with fail
        refine (HSO.out w5).mono ?_
        rintro e w6 ⟨rfl, h6⟩
        have h6 := h6.symm
        subst h6
        simp only
        go_wp2_with fail
        refine (HADk.out w5).mono ?_
        rintro e w6 ⟨rfl, h6⟩
        have h6 := h6.symm
        subst h6
        simp only
        go_wp2_with fail
        refine (HCk.out w5).mono ?_
        rintro e w6 ⟨rfl, h6⟩
        have h6 := h6.symm
        subst h6
        simp only
        go_wp2
        go_roundw
        case rel => exact ⟨k + 1, hlt, by go_num, O5⟩
        case measure => simp [intOf]; omega
      · obtain rfl : k = n := by omega
        have hk1 : ¬ ((k : Nat) : Int) < (k : Int) := by omega
        have HO2 : Hid (OwnSend w wr p (Sf.prog (Sf.stB s0 ((l.take k).map cut5) []))) := by
          have := HO.out
          rw [show ((l.take k).drop k).map cut5 = [] by simp] at this
          exact this
        clear HO
        go_wp2
        go_meet
        case rel => exact HO2
  case rest =>
  clear O5 HV HW HCU
  have OB := hcut
  clear hcut
  have hVn := HVL.out n (Nat.le_refl _)
  have HC0 : Hid (Sf.StC (Sf.stB s0 ((l.take n).map cut5) []) s0 n 0 0) := by
    have := Sf.StC.new s0 ((l.take n).map cut5) hsn (by omega)
    rwa [hVn] at this
  clear hVn
  generalize Sf.stB s0 ((l.take n).map cut5) [] = x0 at *
  clear HVL
  go_upto_block 4 with (fail)
  go_cut [] (fun wx => ∃ (x : Sf.S) (dn t : Nat), Hid (OwnSend w wx p (Sf.prog x)) ∧ Hid (Sf.StC x s0 n dn t) ∧ dn ≤ n)
  case first =>
    go_wp2_with fail
    go_loopw [15, 16] (fun s15 s16 wr => ∃ (x : Sf.S) (dn t : Nat), t ≤ l2.length ∧ t ≤ 30 ∧ dn ≤ n ∧ s15 = .int .i64 dn ∧ s16 = .int .i64 t ∧ Hid (OwnSend w wr p (Sf.prog x)) ∧ Hid (Sf.StC x s0 n dn t)) (fun _ s16 _ => l2.length - (intOf s16).toNat)
    case atStart => exact ⟨x0, 0, 0, by omega, by omega, by omega, rfl, rfl, OB, HC0⟩
    case round =>
      clear OB HC0
      obtain ⟨x, dn, t, ht, ht30, hdn, rfl, rfl, HO, HC⟩ := hrel
      have hcont : (t < l2.length ∧ t < 30) ∨ ¬ (t < l2.length ∧ t < 30) := Decidable.em _
      rcases hcont with ⟨hk, hk20⟩ | hstop
      · have hk1 : (t : Int) < (l2.length : Int) := by omega
        have hdk1 : decide ((t : Int) < (l2.length : Int)) = true := decide_eq_true hk1
        have hk2 : (t : Int) < 30 := by omega
        have hdk2 : decide ((t : Int) < 30) = true := decide_eq_true hk2
        have hk0 : (0 : Int) ≤ (t : Int) := by omega
        obtain ⟨g, o, hAe, _, z0⟩ := (HR2.out.touch HO.out.fresh (fun _ _ _ h => h)).int_at t hk
        have hand := and_7s (l2.getD t 0)
        generalize l2.getD t 0 = y at *
        have hy8 : 0 ≤ y % 8 ∧ y % 8 < 8 := by omega
        obtain ⟨d2, hd2⟩ : ∃ d2 : Nat, min (n : Int) ((dn : Int) + y % 8) = (d2 : Int) := ⟨(min (n : Int) ((dn : Int) + y % 8)).toNat, by omega⟩
        have hd2n : d2 ≤ n := by omega
        have hdd : dn ≤ d2 := by omega
        obtain ⟨z, hz1, hz2, hz3⟩ := HC.out.go hsn hdd hd2n hn100 (by omega)
        have HZC := Lib.hid hz2
        have hkl := hz2.kept_len
        have hwt := hz2.wait
        have hps : (x.ps + 1) % 16777216 = (s0 + (t : Int) + 1) % 16777216 := by rw [HC.out.ps]
        have HPO := Lib.hid (opoll HO.out)
        rw [hps] at HPO
        have HST : Hid (∀ W, OwnSend w W p (Sf.prog (Sf.poll x)) → Calls Try.prog 16 #[.pointer (some ⟨p, 0, none⟩), .int .u32 ((s0 + (d2 : Int)) % 16777216), .int .u32 s0, .int .u32 ((s0 + (t : Int) + 1) % 16777216), .slice none 0 0] W fun e w' => e = .returned (.tuple #[.int .i64 0, .int .i64 0]) ∧ OwnSend w w' p (Sf.prog z)) := fun W hW => ostat hW hz3 hsn hz1
        have HVA : Hid (∀ W, OwnSend w W p (Sf.prog z) → Calls Try.prog 13 #[.pointer (some ⟨p, 0, none⟩)] W fun e w' => ∃ A' c', e = .returned (.agg #[.int .u32 (z.s % 16777216), .int .u32 (z.a % 16777216), .int .u32 (z.ms % 16777216), .int .u32 (z.ps % 16777216), .int .u32 (z.pa % 16777216), .int .i64 z.units, .int .i64 (z.wait.length : Int), .int .i64 (z.kept.length : Int), .slice A' z.again.length c']) ∧ OwnSend w w' p (Sf.prog z)) := fun W hW => ovarsP hW hz2.ok
        have hf7 : ∀ (A : Option Addr) (c : Nat) (W : World), (Instr.field 36 (.agg #[.int .u32 (z.s % 16777216), .int .u32 (z.a % 16777216), .int .u32 (z.ms % 16777216), .int .u32 (z.ps % 16777216), .int .u32 (z.pa % 16777216), .int .i64 z.units, .int .i64 (z.wait.length : Int), .int .i64 (z.kept.length : Int), .slice A z.again.length c]) 7).run Try.prog W = .ok (.int .i64 (z.kept.length : Int)) W := fun A c W => by kernel_rfl
        have HLE : Hid (∀ W, OwnSend w W p (Sf.prog z) → Calls Try.prog 17 #[.pointer (some ⟨p, 0, none⟩)] W fun e w' => ∃ C d, e = .returned (.slice C (z.kept ++ z.wait).length d) ∧ (z.kept ++ z.wait).length ≤ d ∧ d ≤ maxLen ∧ OwnSend w w' p (Sf.prog z)) := fun W hW => oleft hW hz2.ok
        rw [hkl] at HVA hf7
        have hbl : ((z.kept ++ z.wait).length : Int) = (n : Int) - (d2 : Int) := by
          rw [hwt, List.append_nil]
          exact hkl
        have hwr : IntKind.i64.wrap ((n : Int) - (d2 : Int)) = (n : Int) - (d2 : Int) := IntWalk.i64_in _ (by omega)
        have hL100 : (z.kept ++ z.wait).length ≤ 100 := by rw [hwt, List.append_nil]; omega
        clear hz1 hz2 hz3 hkl hwt hps
        generalize (z.kept ++ z.wait).length = L1 at *
        have HADd := Lib.hid (fun W => HAD.out (d2 : Int) W)
        generalize (s0 + (d2 : Int)) % 16777216 = sd at *
        generalize (s0 + (t : Int) + 1) % 16777216 = sp at *
        rw [hAe]
        have HAE := Lib.hid hAe
        clear hAe HO HC
        go_wp2_with fail
        refine HPO.out.mono ?_
        rintro e w5 ⟨rfl, o5⟩
        have O5 := Lib.hid o5
        clear o5 HPO z0
        simp only
        go_wp2_with fail
        refine (HSO.out w5).mono ?_
        rintro e w6 ⟨rfl, h6⟩
        have h6 := h6.symm
        subst h6
        simp only
        go_wp2_with fail
        refine (HADd.out w5).mono ?_
        rintro e w6 ⟨rfl, h6⟩
        have h6 := h6.symm
        subst h6
        simp only
        go_wp2_with fail
        refine (HSO.out w5).mono ?_
        rintro e w6 ⟨rfl, h6⟩
        have h6 := h6.symm
        subst h6
        simp only
        go_wp2_with fail
        refine (HST.out w5 O5.out).mono ?_
        rintro e w6 ⟨rfl, o6⟩
        have HV6 := Lib.hid (HVA.out w6 o6)
        clear o6 O5 HST
        simp only
        go_wp2_with fail
        refine HV6.out.mono ?_
        rintro e w7 ⟨A7, c7, rfl, o7⟩
        have HL7 := Lib.hid (HLE.out w7 o7)
        clear o7 HV6
        simp only
        go_wp2_with fail
        refine HL7.out.mono ?_
        rintro e w8 ⟨C8, d8, rfl, hL1, hL2, o8⟩
        have O8 := Lib.hid o8
        clear o8 HL7
        unfold maxLen at hL2
        simp only
        go_wp2
        go_roundw
        case rel => exact ⟨z, d2, t + 1, by omega, by omega, hd2n, rfl, by go_num, O8, HZC⟩
        case measure => simp [intOf]; omega
      · by_cases h1 : t < l2.length
        · have hk1 : (t : Int) < (l2.length : Int) := by omega
          have hdk1 : decide ((t : Int) < (l2.length : Int)) = true := decide_eq_true hk1
          have hk2 : ¬ (t : Int) < 30 := by omega
          have hdk2 : decide ((t : Int) < 30) = false := decide_eq_false hk2
          go_wp2
          go_meet
          case rel => exact ⟨x, dn, t, HO, HC, hdn⟩
        · have hk1 : ¬ (t : Int) < (l2.length : Int) := by omega
          have hdk1 : decide ((t : Int) < (l2.length : Int)) = false := decide_eq_false hk1
          go_wp2
          go_meet
          case rel => exact ⟨x, dn, t, HO, HC, hdn⟩
  case rest =>
  clear OB HC0
  obtain ⟨x, dn, t, HO, HC, hdn⟩ := hcut
  obtain ⟨z, hz1, hz2, hz3, hz4, hz5, hz6⟩ := HC.out.last hsn hdn hn100
  have HVA := Lib.hid (ovarsP HO.out HC.out.ok)
  have hf4 : ∀ (A : Option Addr) (c : Nat) (W : World), (Instr.field 36 (.agg #[.int .u32 (x.s % 16777216), .int .u32 (x.a % 16777216), .int .u32 (x.ms % 16777216), .int .u32 (x.ps % 16777216), .int .u32 (x.pa % 16777216), .int .i64 x.units, .int .i64 (x.wait.length : Int), .int .i64 (x.kept.length : Int), .slice A x.again.length c]) 4).run Try.prog W = .ok (.int .u32 (x.pa % 16777216)) W := fun A c W => by kernel_rfl
  have HST : Hid (∀ W, OwnSend w W p (Sf.prog x) → Calls Try.prog 16 #[.pointer (some ⟨p, 0, none⟩), .int .u32 ((s0 + (n : Int)) % 16777216), .int .u32 s0, .int .u32 (x.pa % 16777216), .slice none 0 0] W fun e w' => e = .returned (.tuple #[.int .i64 0, .int .i64 0]) ∧ OwnSend w w' p (Sf.prog z)) := fun W hW => ostat hW HC.out.ok hsn hz1
  have HID : Hid (∀ W, OwnSend w W p (Sf.prog z) → Calls Try.prog 18 #[.pointer (some ⟨p, 0, none⟩)] W fun e w' => e = .returned (.bool true) ∧ OwnSend w w' p (Sf.prog z)) := fun W hW => oidle hW (by
    have e1 : (Sf.prog z).m.length = z.kept.length := hz2.m_len
    rw [e1, hz4]
    show (decide (z.wait.length = 0) && decide (([] : List ByteArray).length = 0)) = true
    rw [hz3]
    rfl)
  have HVZ : Hid (∀ W, OwnSend w W p (Sf.prog z) → Calls Try.prog 13 #[.pointer (some ⟨p, 0, none⟩)] W fun e w' => ∃ A' c', e = .returned (.agg #[.int .u32 (z.s % 16777216), .int .u32 (z.a % 16777216), .int .u32 ((s0 + 200) % 16777216), .int .u32 (z.ps % 16777216), .int .u32 (z.pa % 16777216), .int .i64 z.units, .int .i64 (z.wait.length : Int), .int .i64 (z.kept.length : Int), .slice A' z.again.length c']) ∧ OwnSend w w' p (Sf.prog z)) := fun W hW => by
    have := ovarsP hW hz2
    rwa [hz5] at this
  have hf2 : ∀ (A : Option Addr) (c : Nat) (W : World), (Instr.field 36 (.agg #[.int .u32 (z.s % 16777216), .int .u32 (z.a % 16777216), .int .u32 ((s0 + 200) % 16777216), .int .u32 (z.ps % 16777216), .int .u32 (z.pa % 16777216), .int .i64 z.units, .int .i64 (z.wait.length : Int), .int .i64 (z.kept.length : Int), .slice A z.again.length c]) 2).run Try.prog W = .ok (.int .u32 ((s0 + 200) % 16777216)) W := fun A c W => by kernel_rfl
  clear hz1 hz2 hz3 hz4 hz5 hz6 HC
  have HADn := Lib.hid (fun W => HAD.out (n : Int) W)
  have HAD2 := Lib.hid (fun W => HAD.out 200 W)
  generalize (s0 + (n : Int)) % 16777216 = sn at *
  generalize (s0 + 200) % 16777216 = s2 at *
  have hs22 : (s2 == s2) = true := by simp
  go_wp2_with fail
  refine (HSO.out wc).mono ?_
  rintro e w6 ⟨rfl, h6⟩
  have h6 := h6.symm
  subst h6
  simp only
  go_wp2_with fail
  refine (HADn.out _).mono ?_
  rintro e w6 ⟨rfl, h6⟩
  have h6 := h6.symm
  subst h6
  simp only
  go_wp2_with fail
  refine (HSO.out _).mono ?_
  rintro e w6 ⟨rfl, h6⟩
  have h6 := h6.symm
  subst h6
  simp only
  go_wp2_with fail
  refine HVA.out.mono ?_
  rintro e w7 ⟨A7, c7, rfl, o7⟩
  have HS7 := Lib.hid (HST.out w7 o7)
  clear o7 HVA HST
  simp only
  go_wp2_with fail
  refine HS7.out.mono ?_
  rintro e w8 ⟨rfl, o8⟩
  have HI8 := Lib.hid (HID.out w8 o8)
  clear o8 HS7
  simp only
  go_wp2_with fail
  refine HI8.out.mono ?_
  rintro e w9 ⟨rfl, o9⟩
  have HV9 := Lib.hid (HVZ.out w9 o9)
  clear o9 HI8
  simp only
  go_wp2_with fail
  refine HV9.out.mono ?_
  rintro e w10 ⟨A10, c10, rfl, o10⟩
  have FF := Lib.hid o10.fresh
  clear o10 HV9
  simp only
  go_wp2_with fail
  refine (HSO.out _).mono ?_
  rintro e w11 ⟨rfl, h11⟩
  have h11 := h11.symm
  subst h11
  simp only
  go_wp2_with fail
  refine (HAD2.out _).mono ?_
  rintro e w11 ⟨rfl, h11⟩
  have h11 := h11.symm
  subst h11
  simp only
  go_wp2
  go_ret
  exact ⟨rfl, FF.out.below (Nat.le_refl _) (fun _ _ h => h)⟩

set_option maxRecDepth 10000 in
theorem sendStreams.walk (start : Int) (v1 v2 : Value) (w : World) (_h0 : (Lit.int .i64 start).wf = true) {H : Type} {enc : TypeId × Value → H} {b1 b2 : Nat} {d1 d2 : DataW H} {p1 p2 : List MemPlace} (hv1 : Value.okWide Try.prog w .any b1 39 v1) (k1 : DataW.Trod enc Try.prog w 0 (fun _ => true) true 39 v1 d1 p1) (hv2 : Value.okWide Try.prog w .any b2 22 v2) (k2 : DataW.Trod enc Try.prog w 0 (fun _ => true) true 22 v2 d2 p2) :
    Calls Try.prog 4 #[.int .i64 start, v1, v2] w fun e w' => e = .returned (.bool true) ∧ Below w.heap.size w w' := by
  obtain ⟨A, c, l, rfl, hr, hg⟩ := open_rd strE Try.underlying39 (by kernel_rfl) (Good := fun v => v.size ≤ maxLen) (fun n cs y hy => by
    obtain ⟨x, rfl, _, hs⟩ := DataW.trod_string Try.underlying9 hy
    exact ⟨x, rfl, hs⟩) hv1 k1
  obtain ⟨A2, c2, l2, rfl, hr2, _⟩ := open_rd_int hv2 k2
  exact sendStreams.core start A c l A2 c2 l2 w hr hg hr2
end Go.Proofs.Ytajdnllkkekmnaa

/-
  RecvCredit: what was taken is credit again, as soon as a status is told; what waits is not.
-/
import Derived.Test.YtpjmgdoekeknjaaRcvO
import Derived.Test.YtpjmgdoekeknjaaOpen
import Derived.Test.YtpjmgdoekeknjaaNum
namespace Go.Proofs.Ytpjmgdoekeknjaa
open Go.RowKit Go.ChangeShapes Go.WideShapes Go.ChangeAt

/-- A receiver all of whose messages came in their order: n of them, k of which wait; j more may come. -/
def Rv.cr (s0 : Int) (W : Nat) (b : ByteArray) (n k j : Nat) : Rv.S :=
  ⟨(s0 + n) % 16777216, (s0 + n) % 16777216, (s0 + n + j) % 16777216, W, [], List.replicate k b, []⟩
section
variable {s0 : Int} {W : Nat} {b : ByteArray} {n k j : Nat}
theorem Rv.cr_new (start w0 : Int) (b : ByteArray) (hW : max 1 (min w0 64) = (W : Int)) (hs : 0 ≤ start ∧ start < 16777216) : Rv.new start w0 = Rv.cr start W b 0 0 W := by
  unfold Rv.new Rv.cr
  rw [hW]
  simp
theorem Rv.cr_renew (hW : W ≤ 64) (hj : j ≤ W - k) (hk : k ≤ W) : Rv.renew (Rv.cr s0 W b n k j) = Rv.cr s0 W b n k (W - k) := by
  unfold Rv.renew Rv.cr
  simp only [List.length_replicate]
  congr 1
  split <;> omega
theorem Rv.cr_data (hj : j < 16777215) : Rv.data (Rv.cr s0 W b n k (j + 1)) ((s0 + n) % 16777216) b = (Rv.cr s0 W b (n + 1) (k + 1) j, [b]) := by
  have e0 : (s0 + (n : Int)) % 16777216 % 16777216 = (s0 + n) % 16777216 := by omega
  have ht : Rv.takes (Rv.cr s0 W b n k (j + 1)) ((s0 + n) % 16777216) = true := by
    unfold Rv.takes Rv.cr
    have h1 : ((s0 + (n : Int)) % 16777216 - (s0 + n) % 16777216) % 16777216 < ((s0 + n + ((j + 1 : Nat) : Int)) % 16777216 - (s0 + n) % 16777216) % 16777216 := by omega
    simp only [mget, List.find?_nil, decide_eq_true h1]
    rfl
  unfold Rv.data
  rw [e0, if_pos ht]
  have hl : Rv.lay (Rv.cr s0 W b n k (j + 1)) ((s0 + n) % 16777216) b = { Rv.cr s0 W b n k (j + 1) with m := [((s0 + n) % 16777216, b)], h := ((s0 + n) % 16777216 + 1) % 16777216 } := by
    unfold Rv.lay
    rw [if_neg (by unfold Rv.cr; simp)]
    unfold Rv.cr
    simp [mset]
  rw [hl]
  unfold Rv.deliver
  have hd : Rv.dl 1 ((s0 + n) % 16777216) [((s0 + n) % 16777216, b)] [] = (((s0 + n) % 16777216 + 1) % 16777216, [], [b]) := by
    simp [Rv.dl, mget, mdel]
  simp only [List.length_singleton]
  have e1 : (Rv.cr s0 W b n k (j + 1)).r = (s0 + n) % 16777216 := rfl
  rw [e1, hd]
  unfold Rv.cr
  have e2 : ((s0 + (n : Int)) % 16777216 + 1) % 16777216 = (s0 + ((n + 1 : Nat) : Int)) % 16777216 := by omega
  have e3 : (s0 + (n : Int) + ((j + 1 : Nat) : Int)) % 16777216 = (s0 + ((n + 1 : Nat) : Int) + (j : Int)) % 16777216 := by omega
  simp only [e2, e3, List.replicate_succ' (n := k)]
theorem Rv.cr_full : Rv.data (Rv.cr s0 W b n k 0) ((s0 + n) % 16777216) b = (Rv.cr s0 W b n k 0, []) := by
  have ht : Rv.takes (Rv.cr s0 W b n k 0) ((s0 + n) % 16777216 % 16777216) = false := by
    unfold Rv.takes Rv.cr
    have h1 : ¬ (((s0 + (n : Int)) % 16777216 % 16777216 - (s0 + n) % 16777216) % 16777216 < ((s0 + n + ((0 : Nat) : Int)) % 16777216 - (s0 + n) % 16777216) % 16777216) := by omega
    simp only [decide_eq_false h1, Bool.and_false]
  unfold Rv.data
  rw [if_neg (by rw [ht]; decide)]
theorem Rv.cr_take {t : Nat} : { Rv.cr s0 W b n k j with inbox := (Rv.cr s0 W b n k j).inbox.drop t } = Rv.cr s0 W b n (k - t) j := by
  unfold Rv.cr
  simp
end

set_option maxHeartbeats 8000000 in
set_option maxRecDepth 4000 in
theorem recvCredit.core (start w0 : Int) (A : Option Addr) (c : Nat) (l : List Int) (w : World) (h : Rd intE w A c l) :
    Calls Try.prog 5 #[.int .i64 start, .int .i64 w0, .slice A l.length c] w fun e w' => e = .returned (.bool true) ∧ Below w.heap.size w w' := by
  have hlc := h.1
  have hcm := h.2.1
  unfold maxLen at hcm
  have H := Lib.hid h
  clear h
  obtain ⟨W, hW⟩ : ∃ W : Nat, max 1 (min w0 64) = (W : Int) := ⟨(max 1 (min w0 64)).toNat, by omega⟩
  have hWb : 1 ≤ W ∧ W ≤ 64 := by omega
  have HWE := Lib.hid hW
  clear hW
  go_enter Try.func5, Try.ntmps5
  go_wp2_with fail
  refine (awake12 w).mono ?_
  rintro e w1 ⟨rfl, f1⟩
  have FW : Hid (Fresh w w1) := f1
  replace H := Lib.hid (H.out.touch f1 (fun _ _ _ h => h))
  clear f1
  simp only
  go_wp2_with fail
  rw [HWE.out]
  refine (sof_any start w1).mono ?_
  rintro e w2 ⟨rfl, rfl⟩
  have HSO := Lib.hid (sof_any start)
  obtain ⟨s0, hs0⟩ : ∃ s0, s0 = start % 16777216 := ⟨_, rfl⟩
  rw [← hs0] at HSO
  have hsb : 0 ≤ s0 ∧ s0 < 16777216 := by omega
  simp only
  rw [← hs0]
  clear hs0
  go_wp2_with fail
  refine (onewR s0 w0 (Touch.refl _ w2) (st := Rv.cr s0 W { data := #[109] } 0 0 W) (Rv.cr_new s0 w0 _ HWE.out hsb)).mono ?_
  rintro e w3 ⟨p, F, rfl, h3, _⟩
  have H3 := Lib.hid h3
  clear h3 HWE
  simp only
  go_wp2_with fail
  go_loopw [9, 10, 11] (fun s9 s10 i wr => ∃ (i0 n k j : Nat) (F : Nat → Prop), i0 ≤ l.length ∧ i0 ≤ 30 ∧ n ≤ 64 * i0 ∧ k ≤ W ∧ j ≤ W - k ∧ i = .int .i64 i0 ∧ s9 = .int .i64 n ∧ s10 = .int .i64 k ∧ Hid (OwnRecv w2 wr p F (Rv.cr s0 W { data := #[109] } n k j))) (fun _ _ i _ => l.length - (intOf i).toNat)
  case atStart => exact ⟨0, 0, 0, W, F, by omega, by omega, by omega, by omega, by omega, rfl, rfl, rfl, H3⟩
  case round =>
    clear H3
    obtain ⟨i0, n, k, j, F, hil, hi30, hn, hk, hj, rfl, rfl, rfl, HO⟩ := hrel
    have hcont : (i0 < l.length ∧ i0 < 30) ∨ ¬ (i0 < l.length ∧ i0 < 30) := Decidable.em _
    rcases hcont with ⟨hk1, hk2⟩ | hstop
    · have hk1' : (i0 : Int) < (l.length : Int) := by omega
      have hdk1 : decide ((i0 : Int) < (l.length : Int)) = true := decide_eq_true hk1'
      have hk2' : (i0 : Int) < 30 := by omega
      have hdk2 : decide ((i0 : Int) < 30) = true := decide_eq_true hk2'
      have hk0 : (0 : Int) ≤ (i0 : Int) := by omega
      have HST := Lib.hid (ostatR HO.out (by show ((s0 + (n : Int)) % 16777216 - (s0 + n) % 16777216) % 16777216 ≤ 100000; omega) (by show 0 ≤ (W : Int) ∧ (W : Int) ≤ 64; omega) (by show (List.replicate k _).length ≤ 1000000; rw [List.length_replicate]; omega) (Rv.cr_renew hWb.2 hj hk))
      go_wp2_with fail
      refine HST.out.mono ?_
      rintro e w4 ⟨B4, d4, S4, rfl, h4, _, _, _, _⟩
      have H4 := Lib.hid h4
      clear h4 HO HST
      simp only
      go_wp2_with fail
      obtain ⟨d, hd⟩ : ∃ d : Nat, d = W - k := ⟨_, rfl⟩
      rw [← hd] at H4
      have hroom : ((s0 + (n : Int) + (d : Int)) % 16777216 - (s0 + (n : Int)) % 16777216) % 16777216 = (d : Int) := by omega
      have hsub : (W : Int) - (k : Int) = (d : Int) := by omega
      have hW2 : W = d + k := by omega
      have hne : ((d : Int) != (d : Int)) = false := by simp
      rw [← hd, show (Rv.cr s0 W { data := #[109] } n k d).mr = (s0 + (n : Int) + (d : Int)) % 16777216 from rfl]
      clear hd hj
      refine (HSO.out _).mono ?_
      rintro e w5 ⟨rfl, rfl⟩
      simp only
      go_wp2_with fail
      refine (sadd_any s0 n w5).mono ?_
      rintro e w6 ⟨rfl, rfl⟩
      simp only
      go_wp2_with fail
      refine (to_any _ _ w6).mono ?_
      rintro e w7 ⟨rfl, rfl⟩
      rw [hroom]
      simp only
      go_wp2_with fail
      obtain ⟨wc, hwc⟩ : ∃ wc, wc = w7 := ⟨_, rfl⟩
      subst hwc
      go_loopw [9, 10, 55] (fun s9 s10 i wr => ∃ (m r : Nat) (F : Nat → Prop), m + r = d ∧ i = .int .i64 m ∧ s9 = .int .i64 ((n + m : Nat) : Int) ∧ s10 = .int .i64 ((k + m : Nat) : Int) ∧ Hid (OwnRecv w2 wr p F (Rv.cr s0 W { data := #[109] } (n + m) (k + m) r))) (fun _ _ i _ => d - (intOf i).toNat)
      case atStart => exact ⟨0, d, F, by omega, rfl, rfl, rfl, H4⟩
      case round =>
        clear H4
        obtain ⟨m, r, F3, hmr, rfl, rfl, rfl, HO⟩ := hrel
        obtain ⟨n2, hn2⟩ : ∃ n2, n2 = n + m := ⟨_, rfl⟩
        obtain ⟨k2, hk2⟩ : ∃ k2, k2 = k + m := ⟨_, rfl⟩
        rw [← hn2, ← hk2] at HO
        rw [← hn2, ← hk2]
        have hb2 : n2 ≤ 3000 ∧ k2 ≤ 64 := by omega
        have HN2 := Lib.hid hn2
        have HK2 := Lib.hid hk2
        have HMR := Lib.hid hmr
        have HW2 := Lib.hid hW2
        clear hn2 hk2 hsub hW2 hmr
        by_cases hlt : m < d
        · have hlt' : (m : Int) < (d : Int) := by omega
          obtain ⟨r', rfl⟩ : ∃ r', r = r' + 1 := ⟨r - 1, by have := HMR.out; omega⟩
          have HD := Lib.hid (odataR ((s0 + (n2 : Int)) % 16777216) { data := #[109] } HO.out (by show (List.replicate k2 _).length + 0 + 0 ≤ 100000; rw [List.length_replicate]; omega) (Rv.cr_data (by have := HMR.out; omega)))
          clear hlt
          go_wp2_with fail
          refine (HSO.out _).mono ?_
          rintro e w8 ⟨rfl, rfl⟩
          simp only
          go_wp2_with fail
          refine (sadd_any s0 n2 w8).mono ?_
          rintro e w9 ⟨rfl, rfl⟩
          simp only
          go_wp2_with fail
          refine HD.out.mono ?_
          rintro e w10 ⟨F10, A10, c10, rfl, _, h10, _, _⟩
          have H10 := Lib.hid h10
          clear h10 HD HO
          simp only [List.length_singleton]
          go_wp2
          go_roundw
          case rel => exact ⟨m + 1, r', F10, by have := HMR.out; omega, by go_num, by rw [show n + (m + 1) = n2 + 1 by have := HN2.out; omega]; go_num, by rw [show k + (m + 1) = k2 + 1 by have := HK2.out; omega]; go_num, by rw [show n + (m + 1) = n2 + 1 by have := HN2.out; omega, show k + (m + 1) = k2 + 1 by have := HK2.out; omega]; exact H10⟩
          case measure => simp [intOf]; omega
        · obtain rfl : m = d := by have := HMR.out; omega
          obtain rfl : r = 0 := by have := HMR.out; omega
          have hlt' : ¬ (m : Int) < (m : Int) := by omega
          have HD := Lib.hid (odataR ((s0 + (n2 : Int)) % 16777216) { data := #[109] } HO.out (by show (List.replicate k2 _).length + 0 + 0 ≤ 100000; rw [List.length_replicate]; omega) Rv.cr_full)
          clear hlt
          go_wp2_with fail
          refine (HSO.out _).mono ?_
          rintro e w8 ⟨rfl, rfl⟩
          simp only
          go_wp2_with fail
          refine (sadd_any s0 n2 w8).mono ?_
          rintro e w9 ⟨rfl, rfl⟩
          simp only
          go_wp2_with fail
          refine HD.out.mono ?_
          rintro e w10 ⟨F10, A10, c10, rfl, _, h10, _, _⟩
          have H10 := Lib.hid h10
          clear h10 HD HO
          simp only [List.length_nil]
          obtain ⟨g, o, rfl, _, c0⟩ := (H.out.touch H10.out.fresh (fun _ _ _ h => h)).int_at i0 hk1
          have hand := and_15 (l.getD i0 0)
          generalize l.getD i0 0 = y at *
          obtain ⟨x, hx⟩ : ∃ x : Nat, y % 16 = (x : Int) := ⟨(y % 16).toNat, by omega⟩
          have hxb : x ≤ 15 := by omega
          rw [hx] at hand
          clear hx
          obtain ⟨t, ht⟩ : ∃ t, t = min x k2 := ⟨_, rfl⟩
          have HT := Lib.hid (otakeR (x : Int) H10.out (by show (List.replicate k2 _).length ≤ 100000; rw [List.length_replicate]; omega) t (by show max 0 (min (x : Int) ((List.replicate k2 _).length : Int)) = (t : Int); rw [List.length_replicate]; omega))
          rw [Rv.cr_take] at HT
          have HTL : Hid (((Rv.cr s0 W { data := #[109] } n2 k2 0).inbox.take t).length = t) := by
            show ((List.replicate k2 _).take t).length = t
            rw [List.length_take, List.length_replicate]; omega
          have htk : t ≤ k2 := by omega
          clear ht
          go_wp2_with fail
          refine HT.out.mono ?_
          rintro e w11 ⟨F11, A11, c11, rfl, _, h11, _, _⟩
          have HV := Lib.hid (ovarsR h11)
          rw [HTL.out]
          clear h11 HT H10 HTL
          simp only
          go_wp2_with fail
          refine HV.out.mono ?_
          rintro e w12 ⟨rfl, h12, _⟩
          have H12 := Lib.hid h12
          have hfi := rvars_inbox (Rv.cr s0 W { data := #[109] } n2 (k2 - t) 0)
          rw [show (Rv.cr s0 W { data := #[109] } n2 (k2 - t) 0).inbox.length = k2 - t from List.length_replicate ..] at hfi
          generalize Rv.varsV (Rv.cr s0 W { data := #[109] } n2 (k2 - t) 0) = vv at *
          have hkt : (k2 : Int) - (t : Int) = ((k2 - t : Nat) : Int) := by omega
          have hkb : k2 - t ≤ W := by have := HK2.out; have := HW2.out; omega
          have hnb : n2 ≤ 64 * (i0 + 1) := by have := HN2.out; have := HW2.out; omega
          generalize k2 - t = k3 at *
          have hne3 : ((k3 : Int) != (k3 : Int)) = false := by simp
          clear h12 HV
          simp only
          go_wp2
          go_roundw
          case rel => exact ⟨i0 + 1, n2, k3, 0, F11, by omega, by omega, hnb, hkb, Nat.zero_le _, by go_num, rfl, by rw [hkt], H12⟩
          case measure => simp [intOf]; omega
    · have hdd : (¬ (i0 : Int) < (l.length : Int)) ∨ ((i0 : Int) < (l.length : Int) ∧ ¬ (i0 : Int) < 30) := by omega
      have FF := Lib.hid (FW.out.trans HO.out.fresh (fun _ _ h => h))
      clear HO hstop
      rcases hdd with hk1 | ⟨hk1, hk2⟩
      · have hdk1 : decide ((i0 : Int) < (l.length : Int)) = false := decide_eq_false hk1
        go_wp2
        go_ret
        exact ⟨by first | rfl | simp, FF.out.below (Nat.le_refl _) (fun _ _ h => h)⟩
      · have hdk1 : decide ((i0 : Int) < (l.length : Int)) = true := decide_eq_true hk1
        have hdk2 : decide ((i0 : Int) < 30) = false := decide_eq_false hk2
        go_wp2
        go_ret
        exact ⟨by first | rfl | simp, FF.out.below (Nat.le_refl _) (fun _ _ h => h)⟩

set_option maxRecDepth 10000 in
theorem recvCredit.walk (start w0 : Int) (v : Value) (w : World) (_h0 : (Lit.int .i64 start).wf = true) (_h1 : (Lit.int .i64 w0).wf = true) {H : Type} {enc : TypeId × Value → H} {b0 : Nat} {d : DataW H} {p : List MemPlace} (hv : Value.okWide Try.prog w .any b0 22 v) (h : DataW.Trod enc Try.prog w 0 (fun _ => true) true 22 v d p) :
    Calls Try.prog 5 #[.int .i64 start, .int .i64 w0, v] w fun e w' => e = .returned (.bool true) ∧ Below w.heap.size w w' := by
  obtain ⟨A, c, l, rfl, hr, _⟩ := open_rd_int hv h
  exact recvCredit.core start w0 A c l w hr
end Go.Proofs.Ytpjmgdoekeknjaa

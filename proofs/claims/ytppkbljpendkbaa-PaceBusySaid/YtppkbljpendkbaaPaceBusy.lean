/-
  polliwoglaw15.PaceBusy: whoever is busy in the idle phase asks anew, and is watched; whoever is active goes on.
-/
import Derived.Test.YtppkbljpendkbaaPaceQ
namespace Go.Proofs.Ytppkbljpendkbaa
open Go.RowKit

theorem bz_polled (c1 c2 c3 : Int) (h2 : 1 ≤ c2 ∧ c2 ≤ 41) (h3 : 1 ≤ c3) : Pc.polled [0, c1, 0, c3, 0] c1 c2 c3 true = [0, 0, c2, c3, 0] := by
  have e2 : max 1 (min c2 1048576) = c2 := by omega
  have e3 : 0 < c3 := by omega
  simp [Pc.polled, Pc.watch, Pc.stops, Tm.stop, Tm.start, Tm.left, e2, e3]
theorem bz_answered (c2 c3 c4 : Int) (h2 : 1 ≤ c2) (h4 : 1 ≤ c4 ∧ c4 ≤ 41) : Pc.answered [0, 0, c2, c3, 0] c3 c4 true = [0, 0, 0, 0, c4] := by
  have e4 : max 1 (min c4 1048576) = c4 := by omega
  have e2 : 0 < c2 := by omega
  simp [Pc.answered, Pc.stops, Tm.stop, Tm.start, Tm.left, e2, e4]
theorem bz_tick (c4 : Int) (h : 2 ≤ c4) : Tm.tick [0, 0, 0, 0, c4] = [0, 0, 0, 0, c4 - 1] ∧ Tm.over [0, 0, 0, 0, c4] = [] := by
  constructor
  · have : ¬ c4 = 0 := by omega
    simp [Tm.tick, Tm.dec, this]
  · have : ¬ c4 = 1 := by omega
    simp [Tm.over, Tm.overTo, List.range_succ, this]
theorem bz_busy (c1 c3 x : Int) (h1 : 1 ≤ c1 ∧ c1 ≤ 41) (h3 : 1 ≤ c3 ∧ c3 ≤ 41) (hx : 0 < x) : Pc.busy [0, 0, 0, 0, x] c1 c3 = [0, c1, 0, c3, 0] := by
  have e1 : max 1 (min c1 1048576) = c1 := by omega
  have e3 : max 1 (min c3 1048576) = c3 := by omega
  simp [Pc.busy, Pc.watch, Pc.stops, Tm.stop, Tm.start, Tm.left, e1, e3, hx]
theorem bz_busy2 (c1 c3 : Int) : Pc.busy [0, c1, 0, c3, 0] c1 c3 = [0, c1, 0, c3, 0] := by
  simp [Pc.busy, Tm.left]

set_option maxRecDepth 100000 in
set_option maxHeartbeats 4000000 in
theorem paceBusy.core (A : Option Addr) (c : Nat) (L : List Int) (x : Int) (w : World) (hr : Rd intE w A c L) :
    Calls Try.prog 4 #[.slice A L.length c, .int .i64 x] w fun e w' => e = .returned (.bool true) ∧ Below w.heap.size w w' := by
  have HR := Lib.hid hr
  clear hr
  go_enter Try.func4, Try.ntmps4
  go_wp2_with fail
  refine (awake15_any _).mono ?_
  rintro e w1 ⟨rfl, t1⟩
  go_wp2_with fail
  refine (right_any A c L w1 (HR.out.touch t1 (fun _ _ _ h => h))).mono ?_
  rintro e w2 ⟨g, c0, c1, c2, c3, c4, rfl, s2, hG, t2, hg2⟩
  have HG := Lib.hid hG
  have T2 := Lib.hid (t1.trans t2 (fun _ _ h => h))
  clear t1 t2 hG HR
  go_wp2_with fail
  refine (own15_any g c0 c1 c2 c3 c4 w2 s2).mono ?_
  rintro e w3 ⟨rfl, t3⟩
  have S3 := Lib.hid (s2.touch t3 (fun _ _ h => h))
  have T3 := Lib.hid (T2.out.trans t3 (fun _ _ h => h))
  clear s2 t3 T2
  go_wp2_with fail
  refine (new15_any c0 c1 c2 c3 c4 w3 HG.out).mono ?_
  rintro e w4 ⟨gp, rfl, h4, t4, hgp⟩
  have S4 := Lib.hid (S3.out.touch t4 (fun _ _ h => h))
  have T4 := Lib.hid (T3.out.trans t4 (fun _ _ h => h))
  have H4 := Lib.hid h4
  have hwp := T3.out.size
  clear t4 h4 T3 S3
  have hne : g ≠ gp := S4.out.blk_ne H4.out.2.2 (by decide) _ rfl
  obtain ⟨⟨a0, b0⟩, ⟨a1, b1⟩, ⟨a2, b2⟩, ⟨a3, b3⟩, ⟨a4, b4⟩, h13, h23⟩ := HG.out
  clear HG
  go_wp2_with fail
  refine (begin_any gp _ c0 c1 c2 c3 c4 w4 H4.out).mono ?_
  rintro e w5 ⟨rfl, h5, t5⟩
  have H5 := Lib.hid (h5.eq (begin_zero c1 c3 ⟨a1, b1⟩ ⟨a3, b3⟩))
  clear h5 H4
  go_wp2_with fail
  refine (polled_any gp _ c0 c1 c2 c3 c4 w5 true H5.out).mono ?_
  rintro e w6 ⟨rfl, h6, t6⟩
  have H6 := Lib.hid (h6.eq (bz_polled c1 c2 c3 ⟨a2, b2⟩ a3))
  clear h6 H5
  go_wp2_with fail
  refine (answered_any gp _ c0 c1 c2 c3 c4 w6 true H6.out).mono ?_
  rintro e w7 ⟨rfl, h7, t7⟩
  have H7 := Lib.hid (h7.eq (bz_answered c2 c3 c4 a2 ⟨a4, b4⟩))
  have t47 := (t5.trans t6 (fun _ _ h => h)).trans t7 (fun _ _ h => h)
  have S7 := Lib.hid (S4.out.touch t47 (fun ad ha e => by injection ha with ha; subst ha; exact hne e))
  have T7 : Hid (Fresh w w7) := T4.out.trans t47 (fun k hk e => by have : k = gp := e; omega)
  clear h7 t5 t6 t7 t47 H6 S4 T4
  have k4 : w7.cell? ⟨g, 4, none⟩ = some (.int .i64 c4) := S7.out.int_at0 4 (by simp)
  obtain ⟨n, hn, hnx⟩ : ∃ n : Nat, (n : Int) = max 0 (min x (c4 - 1)) ∧ (n : Int) ≤ c4 - 1 := ⟨(max 0 (min x (c4 - 1))).toNat, by omega, by omega⟩
  obtain ⟨x1, hx1⟩ : ∃ x1 : Int, (if c4 - 1 < x then c4 - 1 else x) = x1 := ⟨_, rfl⟩
  have hx2 : (if 0 < x1 then x1 else 0) = (n : Int) := by rw [hn, ← hx1]; split <;> split <;> omega
  have HN := Lib.hid hn
  clear hn
  go_wp2_with fail
  clear hx1 hx2 k4
  go_loopw [39] (fun i wr => ∃ k : Nat, k ≤ n ∧ i = .int .i64 k ∧ Hid (Pk wr gp [0, 0, 0, 0, c4 - k] c0 c1 c2 c3 c4) ∧ Hid (Sl intE wr (some ⟨g, 0, none⟩) 5 [c0, c1, c2, c3, c4]) ∧ Hid (Fresh w wr)) (fun i _ => n - (intOf i).toNat)
  case atStart => exact ⟨0, by omega, rfl, by simpa using H7, S7, T7⟩
  case round =>
    clear H7 S7 T7
    obtain ⟨k, hk, rfl, H, S, T⟩ := hrel
    by_cases hkn : k < n
    · have hki : (k : Int) < (n : Int) := by omega
      have HO := Lib.hid (bz_tick (c4 - k) (by omega))
      go_wp2_with fail
      refine (tick_any gp _ (by decide) _ _ wr H.out).mono ?_
      rintro e w8 ⟨A8, ca8, rfl, s8, h8, t8⟩
      rw [HO.out.2]
      rw [HO.out.1] at h8
      have H8 : Hid (Pk w8 gp [0, 0, 0, 0, c4 - ((k + 1 : Nat) : Int)] c0 c1 c2 c3 c4) := by
        have e : c4 - (k : Int) - 1 = c4 - ((k + 1 : Nat) : Int) := by omega
        rw [← e]; exact h8
      have S8 := Lib.hid (S.out.touch t8 (fun ad ha e => by injection ha with ha; subst ha; exact hne e))
      have T8 : Hid (Fresh w w8) := T.out.trans t8 (fun k hk e => by have : k = gp := e; omega)
      clear s8 h8 t8 H S T HO
      go_wp2
      go_roundw
      case rel => exact ⟨k + 1, by omega, by go_num, H8, S8, T8⟩
      case measure => simp [intOf]; omega
    · have hkn' : k = n := by omega
      subst hkn'
      have k1 : wr.cell? ⟨g, 1, none⟩ = some (.int .i64 c1) := S.out.int_at0 1 (by simp)
      have k3 : wr.cell? ⟨g, 3, none⟩ = some (.int .i64 c3) := S.out.int_at0 3 (by simp)
      have k4 : wr.cell? ⟨g, 4, none⟩ = some (.int .i64 c4) := S.out.int_at0 4 (by simp)
      have q4 : Hid (Tm.left [0, 0, 0, 0, c4 - (k : Int)] 4 = c4 - (k : Int)) := rfl
      have q3 : Hid (decide (0 < Tm.left [0, 0, 0, 0, c4 - (k : Int)] 3) = false) := rfl
      have qs : Hid (Pc.safe [0, 0, 0, 0, c4 - (k : Int)] = true) := decide_eq_true (.inl rfl)
      have sw : IntKind.i64.wrap (c4 - (k : Int)) = c4 - (k : Int) := IntWalk.i64_in _ (by omega)
      have HBz := Lib.hid (bz_busy c1 c3 (c4 - (k : Int)) ⟨a1, b1⟩ ⟨a3, b3⟩ (by omega))
      go_wp2
      go_quiet ((first | (go_at_call 17; with_reducible exact pleft_q q4 H.out _) | (go_at_call 13; with_reducible exact pruns_q q3 H.out _) | (go_at_call 14; with_reducible exact safe_q qs H.out _)))
      have H2 := Lib.hid (Bk.drewN H.out nq)
      have S2 := Lib.hid (S.out.drew)
      have T2 := Lib.hid (T.out.drewN nq)
      have S3 : Hid (Sl intE (wr.drewN nq) (some ⟨g, 0, none⟩) 5 [c0, c1, c2, c3, c4]) := S.out
      generalize wr.drewN nq = w8 at *
      clear H S T S2 k1 k3 k4
      go_wp2_with fail
      refine (busy_any gp _ c0 c1 c2 c3 c4 w8 H2.out).mono ?_
      rintro e w9 ⟨rfl, h9, t9⟩
      rw [HBz.out] at h9
      have H9 := Lib.hid h9
      have S9 := Lib.hid (S3.out.touch t9 (fun ad ha e => by injection ha with ha; subst ha; exact hne e))
      have T9 : Hid (Fresh w w9) := T2.out.trans t9 (fun k hk e => by have : k = gp := e; omega)
      have k1 : w9.cell? ⟨g, 1, none⟩ = some (.int .i64 c1) := S9.out.int_at0 1 (by simp)
      have k3 : w9.cell? ⟨g, 3, none⟩ = some (.int .i64 c3) := S9.out.int_at0 3 (by simp)
      have p1 : Hid (Tm.left [0, c1, 0, c3, 0] 1 = c1) := rfl
      have p3 : Hid (Tm.left [0, c1, 0, c3, 0] 3 = c3) := rfl
      have p4 : Hid (decide (0 < Tm.left [0, c1, 0, c3, 0] 4) = false) := rfl
      have ps : Hid (Pc.safe [0, c1, 0, c3, 0] = true) := decide_eq_true (.inr (.inl ⟨by show 0 < c1; omega, by show c1 < c3; omega⟩))
      clear h9 t9 H2 S3 T2 HBz q4 q3 qs
      go_wp2
      go_quiet ((first | (go_at_call 17; first | with_reducible exact pleft_q p1 H9.out _ | with_reducible exact pleft_q p3 H9.out _) | (go_at_call 13; with_reducible exact pruns_q p4 H9.out _) | (go_at_call 14; with_reducible exact safe_q ps H9.out _)))
      have H10 : Hid (Pk (w9.drewN nq) gp [0, c1, 0, c3, 0] c0 c1 c2 c3 c4) := Bk.drewN H9.out nq
      have T10 := Lib.hid (T9.out.drewN nq)
      generalize w9.drewN nq = w10 at *
      clear H9 S9 T9 k1 k3 p4 ps
      go_wp2_with fail
      refine (clone15_any gp _ c0 c1 c2 c3 c4 w10 H10.out).mono ?_
      rintro e w11 ⟨rfl, h11, t11⟩
      have H11 : Hid (Pk w11 gp [0, c1, 0, c3, 0] c0 c1 c2 c3 c4) := Bk.touch H10.out t11 (fun h => h)
      have Q11 := Lib.hid h11
      have T11 := Lib.hid (T10.out.trans t11 (fun _ _ h => h))
      have hgq : gp ≠ w10.heap.size := by have := Bk.lt H10.out; omega
      have hgw := T10.out.size
      generalize w10.heap.size = gq at *
      clear h11 t11 H10 T10
      go_wp2_with fail
      refine (busy_any gp _ c0 c1 c2 c3 c4 w11 H11.out).mono ?_
      rintro e w12 ⟨rfl, h12, t12⟩
      rw [bz_busy2] at h12
      have H12 := Lib.hid h12
      have Q12 : Hid (Pk w12 gq [0, c1, 0, c3, 0] c0 c1 c2 c3 c4) := Bk.touch Q11.out t12 (fun h => hgq h.symm)
      have T12 : Hid (Fresh w w12) := T11.out.trans t12 (fun k hk e => by have : k = gp := e; omega)
      clear h12 t12 H11 Q11 T11
      go_wp2
      go_quiet ((go_at_call 17; first | with_reducible exact pleft_q p1 H12.out _ | with_reducible exact pleft_q p3 H12.out _ | with_reducible exact pleft_q p1 Q12.out _ | with_reducible exact pleft_q p3 Q12.out _))
      go_wp2
      go_ret
      exact ⟨rfl, (T12.out.drewN _).below (Nat.le_refl _) (fun _ _ h => h)⟩

theorem paceBusy.walk (v : Value) (a1 : Int) (w : World) {H : Type} {enc : TypeId × Value → H} {base : Nat} {d : DataW H} {p : List MemPlace} (hv : Value.okWide Try.prog w .any base 22 v) (h : DataW.Trod enc Try.prog w 0 (fun _ => true) true 22 v d p) (_h1 : (Lit.int .i64 a1).wf = true) :
    Calls Try.prog 4 #[v, .int .i64 a1] w fun e w' => e = .returned (.bool true) ∧ Below w.heap.size w w' := by
  obtain ⟨A, c, l, rfl, hr, _⟩ := open_rd_int hv h
  exact paceBusy.core A c l a1 w hr
end Go.Proofs.Ytppkbljpendkbaa

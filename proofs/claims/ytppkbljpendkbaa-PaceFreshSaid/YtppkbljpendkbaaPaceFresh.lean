/-
  polliwoglaw15.PaceFresh: from a beginning on, let alone: a poll is due first, and silence is over at its tick.
-/
import Derived.Test.YtppkbljpendkbaaPaceA
namespace Go.Proofs.Ytppkbljpendkbaa
open Go.RowKit

def pf (c1 c3 : Int) (k : Nat) : List Int := [0, max (c1 - k) 0, 0, max (c3 - k) 0, 0]
theorem pf_tick (c1 c3 : Int) (k : Nat) : Tm.tick (pf c1 c3 k) = pf c1 c3 (k + 1) := by
  have h : ∀ c : Int, Tm.dec (max (c - k) 0) = max (c - (k + 1 : Nat)) 0 := fun c => by unfold Tm.dec; split <;> omega
  unfold Tm.tick pf
  simp only [List.map_cons, List.map_nil, h]
  rfl
theorem over_01 (a b : Int) : Tm.over [0, a, 0, b, 0] = (if a = 1 then [1] else []) ++ (if b = 1 then [3] else []) := by
  unfold Tm.over Tm.overTo
  by_cases ha : a = 1 <;> by_cases hb : b = 1 <;> simp [List.range_succ, ha, hb]
theorem pf_over (c1 c3 : Int) (k : Nat) : Tm.over (pf c1 c3 k) = (if c1 = k + 1 then [1] else []) ++ (if c3 = k + 1 then [3] else []) := by
  unfold pf
  rw [over_01]
  congr 1
  · by_cases h : c1 = k + 1
    · rw [if_pos h, if_pos (by omega)]
    · rw [if_neg h, if_neg (by omega)]
  · by_cases h : c3 = k + 1
    · rw [if_pos h, if_pos (by omega)]
    · rw [if_neg h, if_neg (by omega)]
theorem pf_left1 (c1 c3 : Int) (k : Nat) : Tm.left (pf c1 c3 k) 1 = max (c1 - k) 0 := rfl
theorem pf_left3 (c1 c3 : Int) (k : Nat) : Tm.left (pf c1 c3 k) 3 = max (c3 - k) 0 := rfl

theorem runs_q {b : Bool} {g : Nat} {T : TypeId} {l c : List Int} {t : Int} {w : World} (hb : Hid (decide (0 < Tm.left l t) = b)) (h : Bk w g T l c) (n : Nat) :
    Calls Try.prog 13 #[.pointer (some ⟨g, 0, none⟩), .int .i64 t] (w.drewN n) fun e w'' => e = .returned (.bool b) ∧ ∃ m, w'' = w.drewN m := by
  rw [← hb.out]
  exact (runs_any g T l c t _ (h.drewN n)).mono fun _ _ ⟨a, b⟩ => ⟨a, n, b.symm⟩

set_option maxRecDepth 100000 in
set_option maxHeartbeats 4000000 in
theorem paceFresh.core (A : Option Addr) (c : Nat) (L : List Int) (w : World) (hr : Rd intE w A c L) :
    Calls Try.prog 3 #[.slice A L.length c] w fun e w' => e = .returned (.bool true) ∧ Below w.heap.size w w' := by
  have HR := Lib.hid hr
  clear hr
  go_enter Try.func3, Try.ntmps3
  go_wp2_with fail
  refine (awake15_any _).mono ?_
  rintro e w1 ⟨rfl, t1⟩
  go_wp2_with fail
  refine (right_any A c L w1 (HR.out.touch t1 (fun _ _ _ h => h))).mono ?_
  rintro e w2 ⟨g, c0, c1, c2, c3, c4, rfl, s2, hG, t2, hg2⟩
  have HG := Lib.hid hG
  have T2 := Lib.hid (t1.trans t2 (fun _ _ h => h))
  clear t1 t2 hG HR
  go_wp2_with fail
  refine (own15_any g c0 c1 c2 c3 c4 w2 s2).mono ?_
  rintro e w3 ⟨rfl, t3⟩
  have S3 := Lib.hid (s2.touch t3 (fun _ _ h => h))
  have T3 := Lib.hid (T2.out.trans t3 (fun _ _ h => h))
  clear s2 t3 T2
  go_wp2_with fail
  refine (new15_any c0 c1 c2 c3 c4 w3 HG.out).mono ?_
  rintro e w4 ⟨gp, rfl, h4, t4, hgp⟩
  have S4 := Lib.hid (S3.out.touch t4 (fun _ _ h => h))
  have T4 := Lib.hid (T3.out.trans t4 (fun _ _ h => h))
  have H4 := Lib.hid h4
  have hwp := T3.out.size
  clear t4 h4 T3 S3
  go_wp2_with fail
  refine (begin_any gp _ c0 c1 c2 c3 c4 w4 H4.out).mono ?_
  rintro e w5 ⟨rfl, h5, t5⟩
  obtain ⟨⟨a0, b0⟩, ⟨a1, b1⟩, ⟨a2, b2⟩, ⟨a3, b3⟩, ⟨a4, b4⟩, h13, h23⟩ := HG.out
  have hpf : Pc.begin_ [0, 0, 0, 0, 0] c1 c3 = pf c1 c3 0 := by
    have e1 : max 1 (min c1 1048576) = c1 := by omega
    have e3 : max 1 (min c3 1048576) = c3 := by omega
    show (if 0 < (0 : Int) then Tm.start (Pc.end_ [0, 0, 0, 0, 0]) 1 c1 else Tm.start (Tm.start (Pc.end_ [0, 0, 0, 0, 0]) 1 c1) 3 c3) = _
    rw [if_neg (by decide)]
    show [0, max 1 (min c1 1048576), 0, max 1 (min c3 1048576), 0] = _
    unfold pf
    rw [e1, e3]
    congr 2
    · omega
    · congr 2; omega
  have H5 := Lib.hid (h5.eq hpf)
  have hne : g ≠ gp := S4.out.blk_ne H4.out.2.2 (by decide) _ rfl
  have S5 := Lib.hid (S4.out.touch t5 (fun ad ha e => by injection ha with ha; subst ha; exact hne e))
  have T5 : Hid (Fresh w w5) := T4.out.trans t5 (fun k hk e => by have : k = gp := e; omega)
  clear hpf h5 t5 H4 S4 T4 HG
  go_wp2_with fail
  go_loopw [5] (fun i wr => ∃ k : Nat, (k : Int) ≤ c3 ∧ i = .int .i64 ((k : Int) + 1) ∧ Hid (Pk wr gp (pf c1 c3 k) c0 c1 c2 c3 c4) ∧ Hid (Sl intE wr (some ⟨g, 0, none⟩) 5 [c0, c1, c2, c3, c4]) ∧ Hid (Fresh w wr)) (fun i _ => 100 - (intOf i).toNat)
  case atStart => exact ⟨0, by omega, rfl, H5, S5, T5⟩
  case round =>
    clear H5 S5 T5
    obtain ⟨k, hk3, rfl, H, S, T⟩ := hrel
    have k1 : wr.cell? ⟨g, 1, none⟩ = some (.int .i64 c1) := S.out.int_at0 1 (by simp)
    have k3 : wr.cell? ⟨g, 3, none⟩ = some (.int .i64 c3) := S.out.int_at0 3 (by simp)
    by_cases hle : (k : Int) + 1 ≤ c3
    · have HO := Lib.hid (pf_over c1 c3 k)
      have L1 := Lib.hid (pf_left1 c1 c3 (k + 1))
      have L3 := Lib.hid (pf_left3 c1 c3 (k + 1))
      have HTk := Lib.hid (pf_tick c1 c3 k)
      go_wp2_with fail
      refine (tick_any gp _ (by decide) _ _ wr H.out).mono ?_
      rintro e w6 ⟨A6, ca6, rfl, s6, h6, t6⟩
      rw [HO.out] at s6 ⊢
      rw [HTk.out] at h6
      have H6 : Hid (Pk w6 gp (pf c1 c3 (k + 1)) c0 c1 c2 c3 c4) := h6
      have S6 := Lib.hid (S.out.touch t6 (fun ad ha e => by injection ha with ha; subst ha; exact hne e))
      have T6 : Hid (Fresh w w6) := T.out.trans t6 (fun k hk e => by have : k = gp := e; omega)
      have m1 : w6.cell? ⟨g, 1, none⟩ = some (.int .i64 c1) := S6.out.int_at0 1 (by simp)
      have m3 : w6.cell? ⟨g, 3, none⟩ = some (.int .i64 c3) := S6.out.int_at0 3 (by simp)
      clear h6 t6 H S T HO HTk k1 k3
      rcases (show ((k : Int) + 1 < c1) ∨ ((k : Int) + 1 = c1) ∨ (c1 < (k : Int) + 1 ∧ (k : Int) + 1 < c3) ∨ ((k : Int) + 1 = c3) by omega) with hc | hc | ⟨hc, hc2⟩ | hc
      · -- []
        rw [if_neg (show ¬ c1 = (k : Int) + 1 by omega), if_neg (show ¬ c3 = (k : Int) + 1 by omega), List.append_nil] at s6 ⊢
        have q3 : Hid (decide (0 < Tm.left (pf c1 c3 (k + 1)) 3) = true) := by unfold Hid; rw [L3.out]; simp; omega
        have q1 : Hid (decide (0 < Tm.left (pf c1 c3 (k + 1)) 1) = true) := by unfold Hid; rw [L1.out]; simp; omega
        have p3 : decide ((k : Int) + 1 < c3) = true := by simp; omega
        have p1 : decide ((k : Int) + 1 < c1) = true := by simp; omega
        clear s6 L1 L3
        go_wp2_with fail
        go_loop [38] (fun j => j = .int .i64 0) (fun _ => 0)
        case atStart => rfl
        case round =>
          subst hrel
          go_wp2
          go_quiet ((go_at_call 13; first | exact runs_q q3 H6.out _ | exact runs_q q1 H6.out _))
          go_wp2
          go_roundw
          case rel => exact ⟨k + 1, by omega, by go_num, H6.out.drewN _, S6.out, T6.out.drewN _⟩
          case measure => simp [intOf]; omega
      · -- [1]
        rw [if_pos (show c1 = (k : Int) + 1 by omega), if_neg (show ¬ c3 = (k : Int) + 1 by omega), List.append_nil] at s6 ⊢
        have q3 : Hid (decide (0 < Tm.left (pf c1 c3 (k + 1)) 3) = true) := by unfold Hid; rw [L3.out]; simp; omega
        have q1 : Hid (decide (0 < Tm.left (pf c1 c3 (k + 1)) 1) = false) := by unfold Hid; rw [L1.out]; simp; omega
        have p3 : decide ((k : Int) + 1 < c3) = true := by simp; omega
        have p1 : decide ((k : Int) + 1 < c1) = false := by simp; omega
        obtain ⟨gA, oA, rfl, _, hcA⟩ := s6.int_at 0 (by decide)
        have hcA' : w6.cell? ⟨gA, oA, none⟩ = some (.int .i64 1) := hcA
        have z1 : ((k : Int) + 1 != c1) = false := by simp; omega
        clear s6 L1 L3 hcA
        go_wp2_with fail
        go_loop [38] (fun j => ∃ jn : Nat, jn ≤ 1 ∧ j = .int .i64 jn) (fun j => 1 - (intOf j).toNat)
        case atStart => exact ⟨0, by omega, rfl⟩
        case round =>
          obtain ⟨jn, hjn, rfl⟩ := hrel
          rcases (show jn = 0 ∨ jn = 1 by omega) with rfl | rfl
          · go_wp2
            go_round
            case rel => exact ⟨1, by omega, rfl⟩
            case measure => simp [intOf]
          · go_wp2
            go_quiet ((go_at_call 13; first | exact runs_q q3 H6.out _ | exact runs_q q1 H6.out _))
            go_wp2
            go_roundw
            case rel => exact ⟨k + 1, by omega, by go_num, H6.out.drewN _, S6.out, T6.out.drewN _⟩
            case measure => simp [intOf]; omega
      · -- []
        rw [if_neg (show ¬ c1 = (k : Int) + 1 by omega), if_neg (show ¬ c3 = (k : Int) + 1 by omega), List.append_nil] at s6 ⊢
        have q3 : Hid (decide (0 < Tm.left (pf c1 c3 (k + 1)) 3) = true) := by unfold Hid; rw [L3.out]; simp; omega
        have q1 : Hid (decide (0 < Tm.left (pf c1 c3 (k + 1)) 1) = false) := by unfold Hid; rw [L1.out]; simp; omega
        have p3 : decide ((k : Int) + 1 < c3) = true := by simp; omega
        have p1 : decide ((k : Int) + 1 < c1) = false := by simp; omega
        clear s6 L1 L3
        go_wp2_with fail
        go_loop [38] (fun j => j = .int .i64 0) (fun _ => 0)
        case atStart => rfl
        case round =>
          subst hrel
          go_wp2
          go_quiet ((go_at_call 13; first | exact runs_q q3 H6.out _ | exact runs_q q1 H6.out _))
          go_wp2
          go_roundw
          case rel => exact ⟨k + 1, by omega, by go_num, H6.out.drewN _, S6.out, T6.out.drewN _⟩
          case measure => simp [intOf]; omega
      · -- [3]
        rw [if_neg (show ¬ c1 = (k : Int) + 1 by omega), if_pos (show c3 = (k : Int) + 1 by omega), List.nil_append] at s6 ⊢
        have q3 : Hid (decide (0 < Tm.left (pf c1 c3 (k + 1)) 3) = false) := by unfold Hid; rw [L3.out]; simp; omega
        have q1 : Hid (decide (0 < Tm.left (pf c1 c3 (k + 1)) 1) = false) := by unfold Hid; rw [L1.out]; simp; omega
        have p3 : decide ((k : Int) + 1 < c3) = false := by simp; omega
        have p1 : decide ((k : Int) + 1 < c1) = false := by simp; omega
        obtain ⟨gA, oA, rfl, _, hcA⟩ := s6.int_at 0 (by decide)
        have hcA' : w6.cell? ⟨gA, oA, none⟩ = some (.int .i64 3) := hcA
        have z1 : ((k : Int) + 1 != c3) = false := by simp; omega
        clear s6 L1 L3 hcA
        go_wp2_with fail
        go_loop [38] (fun j => ∃ jn : Nat, jn ≤ 1 ∧ j = .int .i64 jn) (fun j => 1 - (intOf j).toNat)
        case atStart => exact ⟨0, by omega, rfl⟩
        case round =>
          obtain ⟨jn, hjn, rfl⟩ := hrel
          rcases (show jn = 0 ∨ jn = 1 by omega) with rfl | rfl
          · go_wp2
            go_round
            case rel => exact ⟨1, by omega, rfl⟩
            case measure => simp [intOf]
          · go_wp2
            go_quiet ((go_at_call 13; first | exact runs_q q3 H6.out _ | exact runs_q q1 H6.out _))
            go_wp2
            go_roundw
            case rel => exact ⟨k + 1, by omega, by go_num, H6.out.drewN _, S6.out, T6.out.drewN _⟩
            case measure => simp [intOf]; omega
    · have hk : (k : Int) = c3 := by omega
      have L3 : Hid (Pc.safe (pf c1 c3 k) = true) := by
        unfold Hid Pc.safe
        rw [decide_eq_true_iff]
        exact .inl (by rw [pf_left3]; omega)
      have LO : Hid (Tm.over (pf c1 c3 k) = []) := by
        unfold Hid
        rw [pf_over, if_neg (by omega), if_neg (by omega)]
        rfl
      have hlt : ¬ ((k : Int) + 1 ≤ c3) := hle
      clear hk
      go_wp2_with fail
      refine (safe_any gp _ c0 c1 c2 c3 c4 _ H.out).mono ?_
      rintro e w6 ⟨rfl, rfl⟩
      rw [L3.out]
      go_wp2_with fail
      refine (tick_any gp _ (by decide) _ _ wr H.out).mono ?_
      rintro e w6 ⟨A6, ca6, rfl, s6, h6, t6⟩
      rw [LO.out]
      have T6 : Hid (Fresh w w6) := T.out.trans t6 (fun k hk e => by have : k = gp := e; omega)
      clear s6 h6 t6
      go_wp2
      go_ret
      exact ⟨rfl, T6.out.below (Nat.le_refl _) (fun _ _ h => h)⟩

theorem paceFresh.walk (v : Value) (w : World) {H : Type} {enc : TypeId × Value → H} {base : Nat} {d : DataW H} {p : List MemPlace} (hv : Value.okWide Try.prog w .any base 22 v) (h : DataW.Trod enc Try.prog w 0 (fun _ => true) true 22 v d p) :
    Calls Try.prog 3 #[v] w fun e w' => e = .returned (.bool true) ∧ Below w.heap.size w w' := by
  obtain ⟨A, c, l, rfl, hr, _⟩ := open_rd_int hv h
  exact paceFresh.core A c l w hr
end Go.Proofs.Ytppkbljpendkbaa

/-
  polliwogref15: New, Tick, Safe.
-/
import Derived.Test.YtppkbljpendkbaaRef15c
namespace Go.Proofs.Ytppkbljpendkbaa
open Go.RowKit

/-- Two lists of the call's own, each in memory of its own. -/
structure Two (w : World) (A : Option Addr) (c : Nat) (l : List Int) (B : Option Addr) (d : Nat) (m : List Int) (base : Nat) : Prop where
  a : Sl intE w A c l
  b : Sl intE w B d m
  ha : ∀ ad, A = some ad → base ≤ ad.block
  hb : ∀ ad, B = some ad → base ≤ ad.block
  ne : ∀ x y, A = some x → B = some y → x.block ≠ y.block
theorem Two.toA {w w' : World} {A A' B : Option Addr} {c c' d base : Nat} {l l' m : List Int} (h : Two w A c l B d m base) (hs : Sl intE w' A' c' l') (ht : Touch (fun k => A.map Addr.block = some k) w w') (hA : A'.map Addr.block = A.map Addr.block ∨ A'.map Addr.block = some w.heap.size) (hbase : base ≤ w.heap.size) : Two w' A' c' l' B d m base := by
  have hAA : ∀ ad, A' = some ad → (∃ a0, A = some a0 ∧ a0.block = ad.block) ∨ ad.block = w.heap.size := fun ad e => by
    subst e
    rcases hA with e | e
    · cases A with
      | none => cases e
      | some a0 => exact .inl ⟨a0, rfl, by simpa using e.symm⟩
    · exact .inr (by simpa using e)
  refine ⟨hs, h.b.touch ht (fun ad e => ?_), fun ad e => ?_, h.hb, fun x y ex ey => ?_⟩
  · intro e2
    cases A with
    | none => cases e2
    | some a0 => exact h.ne a0 ad rfl e (by simpa using e2)
  · rcases hAA ad e with ⟨a0, e1, e2⟩ | e2
    · rw [← e2]; exact h.ha a0 e1
    · omega
  · rcases hAA x ex with ⟨a0, e1, e2⟩ | e2
    · rw [← e2]; exact h.ne a0 y e1 ey
    · have := h.b.lt y ey; omega
theorem Two.swap {w : World} {A B : Option Addr} {c d base : Nat} {l m : List Int} (h : Two w A c l B d m base) : Two w B d m A c l base := ⟨h.b, h.a, h.hb, h.ha, fun x y ex ey e => h.ne y x ey ex e.symm⟩
theorem Two.alloc {w : World} {A B : Option Addr} {c d base : Nat} {l m : List Int} (h : Two w A c l B d m base) (o : Obj) : Two (w.alloc o) A c l B d m base := ⟨h.a.alloc o, h.b.alloc o, h.ha, h.hb, h.ne⟩

theorem Two.touchA {w w' w0 : World} {A B : Option Addr} {c d base : Nat} {l m : List Int} (h : Two w A c l B d m base) (h0 : Touch (fun j => base ≤ j) w0 w) (ht : Touch (fun k => A.map Addr.block = some k) w w') : Touch (fun j => base ≤ j) w0 w' :=
  h0.trans ht (fun k _ e => by
    cases A with
    | none => cases e
    | some a0 => have := h.ha a0 rfl; simp at e; omega)

theorem ref_new (Tk : Option Addr) (ck : Nat) (w : World) :
    Calls Try.prog 20 #[.slice Tk 5 ck] w (RPost Tk ck [0, 0, 0, 0, 0] w) := by
  go_enter Try.func20, Try.ntmps20
  go_wp2
  have HS := Lib.hid (Sl.lit intE (w.alloc (.cells #[.slice Tk 5 ck, .slice (some ⟨w.heap.size + 1, 0, none⟩) 5 5] 46)) (w.heap.size + 1) (by simp) #[.int .i64 0, .int .i64 0, .int .i64 0, .int .i64 0, .int .i64 0] [0, 0, 0, 0, 0] rfl 5 rfl (by decide))
  exact bodyPost_ret (v := .agg #[.slice Tk 5 ck, .slice (some ⟨w.heap.size + 1, 0, none⟩) 5 5]) (by simp [results, Try.results20, go_sem]) rfl ⟨_, _, rfl, HS.out, ((Touch.refl _ w).alloc _).alloc _⟩

theorem tm_left (l : List Int) (i : Nat) (hi : i < 5) : Tm.left l (i : Int) = l.getD i 0 := by
  unfold Tm.left
  rw [if_pos (by omega), Int.toNat_natCast]

set_option maxHeartbeats 1000000 in
theorem ref_safe (Tk Lf : Option Addr) (ck cl : Nat) (l : List Int) (w : World) (hl5 : l.length = 5) (hcl : Sl intE w Lf cl l) :
    Calls Try.prog 24 #[.agg #[.slice Tk 5 ck, .slice Lf 5 cl]] w fun e w' => e = .returned (.bool (Pc.safe l)) ∧ Fresh w w' := by
  obtain ⟨gl, ol, rfl⟩ := hcl.some5 (by omega)
  have hS : Pc.safe l = decide (l.getD 3 0 = 0 ∨ (0 < l.getD 1 0 ∧ l.getD 1 0 < l.getD 3 0) ∨ (0 < l.getD 2 0 ∧ l.getD 2 0 < l.getD 3 0)) := rfl
  have h1 := (hcl.alloc (.cells #[.slice Tk 5 ck, .slice (some ⟨gl, ol, none⟩) 5 cl] 46))
  have y1 := h1.int_atg 1 (by omega)
  have y2 := h1.int_atg 2 (by omega)
  have y3 := h1.int_atg 3 (by omega)
  clear h1 hcl hl5
  have HS := Lib.hid hS
  clear hS
  generalize l.getD 1 0 = x1 at *
  generalize l.getD 2 0 = x2 at *
  generalize l.getD 3 0 = x3 at *
  rcases (show x3 = 0 ∨ (¬ x3 = 0 ∧ 0 < x1 ∧ x1 < x3) ∨ (¬ x3 = 0 ∧ ¬ (0 < x1 ∧ x1 < x3)) by omega) with h | ⟨h, ha, hb⟩ | ⟨h, hn⟩
  · rw [decide_eq_true (.inl h)] at HS
    have z : (x3 == 0) = true := beq_iff_eq.2 h
    clear h
    go_enter Try.func24, Try.ntmps24
    go_wp2
    go_ret
    exact ⟨by rw [HS.out]; rfl, (Touch.refl _ w).alloc _⟩
  · rw [decide_eq_true (.inr (.inl ⟨ha, hb⟩))] at HS
    have z : (x3 == 0) = false := beq_eq_false_iff_ne.2 h
    have d1 := decide_eq_true ha
    have d2 := decide_eq_true hb
    clear h
    go_enter Try.func24, Try.ntmps24
    go_wp2
    go_ret
    exact ⟨by rw [HS.out]; rfl, (Touch.refl _ w).alloc _⟩
  · have z : (x3 == 0) = false := beq_eq_false_iff_ne.2 h
    have hc1 : (decide (0 < x1) = false) ∨ (decide (0 < x1) = true ∧ decide (x1 < x3) = false) := by
      by_cases e : 0 < x1
      · exact .inr ⟨decide_eq_true e, decide_eq_false (fun e2 => hn ⟨e, e2⟩)⟩
      · exact .inl (decide_eq_false e)
    by_cases hm : 0 < x2 ∧ x2 < x3
    · rw [decide_eq_true (.inr (.inr hm))] at HS
      have d1 := decide_eq_true hm.1
      have d2 := decide_eq_true hm.2
      clear h hn hm
      rcases hc1 with e1 | ⟨e1, e2⟩
      all_goals
        go_enter Try.func24, Try.ntmps24
        go_wp2
        go_ret
        exact ⟨by rw [HS.out]; rfl, (Touch.refl _ w).alloc _⟩
    · rw [decide_eq_false (by rintro (e | e | e); exact h e; exact hn e; exact hm e)] at HS
      have hc2 : (decide (0 < x2) = false) ∨ (decide (0 < x2) = true ∧ decide (x2 < x3) = false) := by
        by_cases e : 0 < x2
        · exact .inr ⟨decide_eq_true e, decide_eq_false (fun e2 => hm ⟨e, e2⟩)⟩
        · exact .inl (decide_eq_false e)
      clear h hn hm
      rcases hc1 with e1 | ⟨e1, e2⟩ <;> rcases hc2 with e3 | ⟨e3, e4⟩
      all_goals
        go_enter Try.func24, Try.ntmps24
        go_wp2
        go_ret
        exact ⟨by rw [HS.out]; rfl, (Touch.refl _ w).alloc _⟩

theorem tickTo_take (l : List Int) (k : Nat) (hk : k < l.length) : (l.take (k + 1)).map Tm.dec = (l.take k).map Tm.dec ++ [Tm.dec (l.getD k 0)] := by
  rw [List.take_succ_eq_append_getElem hk, List.map_append]
  simp [List.getD, List.getElem?_eq_getElem hk]
theorem dec_max (x : Int) (h : 0 ≤ x) : max (x - 1) 0 = Tm.dec x := by unfold Tm.dec; split <;> omega

set_option maxHeartbeats 4000000 in
theorem ref_tick (Tk Lf : Option Addr) (ck cl : Nat) (l : List Int) (w : World) (hl5 : l.length = 5) (hl0 : ∀ x ∈ l, 0 ≤ x ∧ x ≤ 1048576) (hcl : Sl intE w Lf cl l) :
    Calls Try.prog 40 #[.agg #[.slice Tk 5 ck, .slice Lf 5 cl]] w fun e w' => ∃ A c B d, e = .returned (.tuple #[.agg #[.slice Tk 5 ck, .slice A 5 c], .slice B (Tm.over l).length d]) ∧ Sl intE w' A c (Tm.tick l) ∧ Sl intE w' B d (Tm.over l) ∧ Fresh w w' := by
  have HL5 := Lib.hid hl5
  have HL0 := Lib.hid hl0
  obtain ⟨gl, ol, rfl⟩ := hcl.some5 (by omega)
  have hlw : gl < w.heap.size := hcl.lt _ rfl
  have HL1 := Lib.hid (((hcl.alloc (.cells #[.slice Tk 5 ck, .slice (some ⟨gl, ol, none⟩) 5 cl] 46)).alloc (.cells #[.slice none 0 0, .slice none 0 0] 46)))
  have HB1 := Lib.hid ((Blk.new w 46 [.slice Tk 5 ck, .slice (some ⟨gl, ol, none⟩) 5 cl]).alloc (.cells #[.slice none 0 0, .slice none 0 0] 46))
  have HR1 := Lib.hid (R_at w (.cells #[.slice Tk 5 ck, .slice (some ⟨gl, ol, none⟩) 5 cl] 46))
  have HF1 : Hid (Fresh w ((w.alloc (.cells #[.slice Tk 5 ck, .slice (some ⟨gl, ol, none⟩) 5 cl] 46)).alloc (.cells #[.slice none 0 0, .slice none 0 0] 46))) := ((Touch.refl _ w).alloc _).alloc _
  clear hcl hl0
  go_enter Try.func40, Try.ntmps40
  go_upto_region 1 with (fail)
  obtain ⟨w1, hw1⟩ : ∃ w1, w1 = (w.alloc (.cells #[.slice Tk 5 ck, .slice (some ⟨gl, ol, none⟩) 5 cl] 46)).alloc (.cells #[.slice none 0 0, .slice none 0 0] 46) := ⟨_, rfl⟩
  rw [← hw1] at HL1 HB1 HR1 HF1 ⊢
  obtain ⟨gb, hgb⟩ : ∃ gb, gb = w.heap.size := ⟨_, rfl⟩
  rw [← hgb] at HB1 HR1 ⊢
  have HGB := Lib.hid hgb
  have hgw : gb + 1 < w1.heap.size := HR1.out.lt
  have b0 : w1.cell? ⟨gb, 0, none⟩ = some (.slice Tk 5 ck) := HB1.out.cell 0
  have b1 : w1.cell? ⟨gb, 1, none⟩ = some (.slice (some ⟨gl, ol, none⟩) 5 cl) := HB1.out.cell 1
  clear hw1 hgb
  go_upto_region 3 with (fail)
  have hA := Sl.lit intE w1 w1.heap.size rfl #[] [] rfl 0 rfl (by decide)
  have hB := Sl.lit intE (w1.alloc (.cells #[] 3)) (w1.heap.size + 1) (by simp) #[] [] rfl 0 rfl (by decide)
  have HT : Hid (Two ((w1.alloc (.cells #[] 3)).alloc (.cells #[] 3)) (some ⟨w1.heap.size, 0, none⟩) 0 [] (some ⟨w1.heap.size + 1, 0, none⟩) 0 [] w1.heap.size) :=
    ⟨hA.alloc _, hB, fun ad e => by injection e with e; subst e; exact Nat.le_refl _, fun ad e => by injection e with e; subst e; simp, fun x y ex ey => by injection ex with ex; injection ey with ey; subst ex ey; simp⟩
  have HF2 : Hid (Fresh w1 ((w1.alloc (.cells #[] 3)).alloc (.cells #[] 3))) := ((Touch.refl _ w1).alloc _).alloc _
  have HB2 := Lib.hid ((HB1.out.alloc (.cells #[] 3)).alloc (.cells #[] 3))
  have HR2 := Lib.hid ((HR1.out.alloc (.cells #[] 3)).alloc (.cells #[] 3))
  have HL2 := Lib.hid ((HL1.out.alloc (.cells #[] 3)).alloc (.cells #[] 3))
  have HF := Lib.hid (HF1.out.trans HF2.out (fun _ _ h => h))
  clear hA hB b0 b1 HB1 HR1 HL1 HF1 HF2
  generalize ((w1.alloc (.cells #[] 3)).alloc (.cells #[] 3)) = w2 at *
  generalize w1.heap.size = base at *
  have b1 : w2.cell? ⟨gb, 1, none⟩ = some (.slice (some ⟨gl, ol, none⟩) 5 cl) := HB2.out.cell 1
  have hbw : base ≤ w2.heap.size := by
    have := HT.out.a.lt _ rfl
    simp only at this
    omega
  have HBW := Lib.hid hbw
  clear hbw
  have hlw : gl < base := by have := HGB.out; omega
  go_wp2_with fail
  go_loopw [4, 5, 13] (fun s4 s5 i wr => ∃ (k : Nat) (A B : Option Addr) (c d : Nat) (L M : List Int), k ≤ 5 ∧ i = .int .i64 k ∧ s4 = .slice A L.length c ∧ s5 = .slice B M.length d ∧ Hid (L = (l.take k).map Tm.dec) ∧ Hid (M = Tm.overTo l k) ∧ Hid (Two wr A c L B d M base) ∧ Hid (Touch (fun j => base ≤ j) w2 wr)) (fun _ _ i _ => 5 - (intOf i).toNat)
  case atStart => exact ⟨0, _, _, _, _, [], [], by omega, rfl, rfl, rfl, rfl, rfl, HT, Touch.refl _ _⟩
  case round =>
    obtain ⟨k, A, B, c, d, L, M, hk, rfl, rfl, rfl, hL, hM, HTw, HTo⟩ := hrel
    have hkw : base ≤ wr.heap.size := Nat.le_trans HBW.out HTo.out.size
    by_cases hlt : k < 5
    · have hki : (k : Int) < 5 := by omega
      have hx := (HL2.out.touch HTo.out (fun ad e => by injection e with e; subst e; simp only; omega)).int_atg k (by have := HL5.out; omega)
      have hxb : 0 ≤ l.getD k 0 ∧ l.getD k 0 ≤ 1048576 := by
        have : l.getD k 0 = l[k]'(by have := HL5.out; omega) := by simp [List.getD, List.getElem?_eq_getElem (show k < l.length by have := HL5.out; omega)]
        rw [this]; exact HL0.out _ (List.getElem_mem _)
      have HD := Lib.hid (tickTo_take l k (by have := HL5.out; omega))
      have HO := Lib.hid (Tm.overTo_succ l k)
      have hdm := dec_max (l.getD k 0) hxb.1
      have hLl : L.length ≤ 5 := by rw [hL.out]; simp; omega
      have hMl : M.length ≤ 5 := by rw [hM.out]; have := Tm.overTo_len l k; omega
      generalize l.getD k 0 = x at *
      rcases (show x = 1 ∨ x = 0 ∨ 1 < x by omega) with rfl | rfl | hx1
      · rw [if_pos rfl] at HO
        have HD1 : Hid ((l.take (k + 1)).map Tm.dec = (l.take k).map Tm.dec ++ [0]) := HD.out
        clear hdm hxb HD
        go_upto_region 8 with (at_builtin; refine app_int rfl rfl (l := M) (l2 := [(k : Int)]) rfl rfl (HTw.out.b.alloc _) (Sl.rd (Sl.lit intE _ _ rfl _ _ rfl _ rfl (by decide))) (by simp; omega) ?_; intro B3 d3 M3 w3 hM3 hs3 ht3 hB3)
        have h2 := (HTw.out.alloc (.cells #[.int .i64 (k : Int)] 3)).swap
        have hw2 : base ≤ (wr.alloc (.cells #[.int .i64 (k : Int)] 3)).heap.size := by simp; omega
        have T3 := Lib.hid (h2.touchA (HTo.out.alloc _) ht3)
        have W3 := Lib.hid (h2.toA hs3 ht3 hB3 hw2).swap
        have M3' : Hid (M3 = Tm.overTo l (k + 1)) := by unfold Hid; rw [hM3.out, HO.out, hM.out]
        have hw3 : base ≤ w3.heap.size := Nat.le_trans HBW.out T3.out.size
        clear h2 hs3 ht3 hB3 hM3 hw2 hM HTw HTo
        go_wp2_with (at_builtin; refine app_int rfl rfl (l := L) (l2 := [0]) rfl rfl (W3.out.a.alloc _) (Sl.rd (Sl.lit intE _ _ rfl _ _ rfl _ rfl (by decide))) (by simp; omega) ?_; intro A4 c4 L4 w4 hL4 hs4 ht4 hA4)
        have h3 := (W3.out.alloc (.cells #[.int .i64 0] 3))
        have hw4 : base ≤ (w3.alloc (.cells #[.int .i64 0] 3)).heap.size := by simp; omega
        have T4 := Lib.hid (h3.touchA (T3.out.alloc _) ht4)
        have W4 := Lib.hid (h3.toA hs4 ht4 hA4 hw4)
        have L4' : Hid (L4 = (l.take (k + 1)).map Tm.dec) := by unfold Hid; rw [hL4.out, HD1.out, hL.out]
        clear h3 hs4 ht4 hA4 hL4 hw4 hL W3 T3
        go_roundw
        case rel => exact ⟨k + 1, A4, B3, c4, d3, L4, M3, by omega, by go_num, rfl, rfl, L4', M3', W4, T4⟩
        case measure => simp [intOf]; omega
      · rw [if_neg (by decide), List.append_nil] at HO
        clear hdm hxb
        have HD1 : Hid ((l.take (k + 1)).map Tm.dec = (l.take k).map Tm.dec ++ [0]) := HD.out
        have M3' : Hid (M = Tm.overTo l (k + 1)) := by unfold Hid; rw [HO.out, hM.out]
        clear HD HO hM
        go_wp2_with (at_builtin; refine app_int rfl rfl (l := L) (l2 := [0]) rfl rfl (HTw.out.a.alloc _) (Sl.rd (Sl.lit intE _ _ rfl _ _ rfl _ rfl (by decide))) (by simp; omega) ?_; intro A4 c4 L4 w4 hL4 hs4 ht4 hA4)
        have h3 := (HTw.out.alloc (.cells #[.int .i64 0] 3))
        have hw4 : base ≤ (wr.alloc (.cells #[.int .i64 0] 3)).heap.size := by simp; omega
        have T4 := Lib.hid (h3.touchA (HTo.out.alloc _) ht4)
        have W4 := Lib.hid (h3.toA hs4 ht4 hA4 hw4)
        have L4' : Hid (L4 = (l.take (k + 1)).map Tm.dec) := by unfold Hid; rw [hL4.out, HD1.out, hL.out]
        clear h3 hs4 ht4 hA4 hL4 hw4 hL HTw HTo
        go_roundw
        case rel => exact ⟨k + 1, A4, B, c4, d, L4, M, by omega, by go_num, rfl, rfl, L4', M3', W4, T4⟩
        case measure => simp [intOf]; omega
      · have hn1 : (x == 1) = false := beq_eq_false_iff_ne.2 (by omega)
        have hdx : Tm.dec x = x - 1 := by unfold Tm.dec; rw [if_neg (by omega)]
        rw [if_neg (by omega), List.append_nil] at HO
        rw [hdx] at HD
        clear hdm hdx
        have HD1 : Hid ((l.take (k + 1)).map Tm.dec = (l.take k).map Tm.dec ++ [(x - 1)]) := HD.out
        have M3' : Hid (M = Tm.overTo l (k + 1)) := by unfold Hid; rw [HO.out, hM.out]
        clear HD HO hM
        go_wp2_with (at_builtin; refine app_int rfl rfl (l := L) (l2 := [(x - 1)]) rfl rfl (HTw.out.a.alloc _) (Sl.rd (Sl.lit intE _ _ rfl _ _ rfl _ rfl (by decide))) (by simp; omega) ?_; intro A4 c4 L4 w4 hL4 hs4 ht4 hA4)
        have h3 := (HTw.out.alloc (.cells #[.int .i64 (x - 1)] 3))
        have hw4 : base ≤ (wr.alloc (.cells #[.int .i64 (x - 1)] 3)).heap.size := by simp; omega
        have T4 := Lib.hid (h3.touchA (HTo.out.alloc _) ht4)
        have W4 := Lib.hid (h3.toA hs4 ht4 hA4 hw4)
        have L4' : Hid (L4 = (l.take (k + 1)).map Tm.dec) := by unfold Hid; rw [hL4.out, HD1.out, hL.out]
        clear h3 hs4 ht4 hA4 hL4 hw4 hL HTw HTo
        go_roundw
        case rel => exact ⟨k + 1, A4, B, c4, d, L4, M, by omega, by go_num, rfl, rfl, L4', M3', W4, T4⟩
        case measure => simp [intOf]; omega
    · have e5 : k = 5 := by omega
      subst e5
      have hLe : Hid (L = Tm.tick l) := by unfold Hid Tm.tick; rw [hL.out, List.take_of_length_le (by have := HL5.out; omega)]
      have hMe : Hid (M = Tm.over l) := hM
      have hL5' : L.length = 5 := by rw [hLe.out]; unfold Tm.tick; rw [List.length_map]; exact HL5.out
      have HBr := HTo.out.blk HB2.out (by show ¬ base ≤ gb; omega)
      have HRr := HTo.out.blk HR2.out (by show ¬ base ≤ gb + 1; omega)
      have HFr := HF.out.trans HTo.out (fun j hj e => by have := HGB.out; omega)
      have hr0 : wr.cell? ⟨gb + 1, 0, none⟩ = some (.slice none 0 0) := HRr.cell 0
      have hr1 : wr.cell? ⟨gb + 1, 1, none⟩ = some (.slice none 0 0) := HRr.cell 1
      have hb0 : wr.cell? ⟨gb, 0, none⟩ = some (.slice Tk 5 ck) := HBr.cell 0
      have hf0 := HRr.frozen 0
      have hf1 := HRr.frozen 1
      have HBf := Lib.hid ((HRr.set 0 (.slice Tk 5 ck)).set 1 (.slice A L.length c))
      have hne : ∀ ad : Addr, (A : Option Addr) = some ad → ad.block ≠ gb + 1 := HTw.out.a.blk_ne HRr (by decide)
      have hneB : ∀ ad : Addr, (B : Option Addr) = some ad → ad.block ≠ gb + 1 := HTw.out.b.blk_ne HRr (by decide)
      have HSa := Lib.hid ((HTw.out.a.setCell (p := ⟨gb + 1, 0, none⟩) hne (.slice Tk 5 ck)).setCell (p := ⟨gb + 1, 1, none⟩) hne (.slice A L.length c))
      have HSb := Lib.hid ((HTw.out.b.setCell (p := ⟨gb + 1, 0, none⟩) hneB (.slice Tk 5 ck)).setCell (p := ⟨gb + 1, 1, none⟩) hneB (.slice A L.length c))
      have HFf : Hid (Fresh w ((wr.setCell ⟨gb + 1, 0, none⟩ (.slice Tk 5 ck)).setCell ⟨gb + 1, 1, none⟩ (.slice A L.length c))) :=
        (HFr.setCell (fun h => by have := HGB.out; simp at h; omega) _).setCell (fun h => by have := HGB.out; simp at h; omega) _
      have HLL := Lib.hid hL5'
      clear HBr HRr HFr hL5' hne hneB HTw HTo hL hM b1
      go_wp2
      generalize ((wr.setCell ⟨gb + 1, 0, none⟩ (.slice Tk 5 ck)).setCell ⟨gb + 1, 1, none⟩ (.slice A L.length c)) = wf at *
      have e0 : wf.cell? ⟨gb + 1, 0, none⟩ = some (.slice Tk 5 ck) := HBf.out.cell 0
      have e1 : wf.cell? ⟨gb + 1, 1, none⟩ = some (.slice A L.length c) := HBf.out.cell 1
      rw [hLe.out] at HSa
      rw [hMe.out] at HSb
      exact bodyPost_ret (v := .tuple #[.agg #[.slice Tk 5 ck, .slice A L.length c], .slice B M.length d]) (by simp [results, Try.results40, go_sem, e0, e1]) rfl ⟨A, c, B, d, by rw [HLL.out, hMe.out], HSa.out, HSb.out, HFf.out⟩
end Go.Proofs.Ytppkbljpendkbaa

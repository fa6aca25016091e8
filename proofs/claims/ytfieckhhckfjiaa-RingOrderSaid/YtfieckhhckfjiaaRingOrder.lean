/-
  polliwoglaw04.RingOrder.
-/
import Derived.Test.YtfieckhhckfjiaaAwakeR
import Derived.Test.YtfieckhhckfjiaaRingWStr
import Derived.Test.YtfieckhhckfjiaaTyB
namespace Go.Proofs.Ytfieckhhckfjiaa
open Go.RowKit Go.ChangeShapes Go.WideShapes Go.ChangeAt

/-- A row and two lists, each in memory of its own that was not there in world B. -/
structure RoSt (B w : World) (g : Nat) (b : Option Nat) (m : Nat) (q : List ByteArray) (Ai : Option Addr) (ci : Nat) (I : List ByteArray) (Ao : Option Addr) (co : Nat) (O : List ByteArray) : Prop where
  ring : RingStr w g b m q
  si : Sl strE w Ai ci I
  so : Sl strE w Ao co O
  fresh : Fresh B w
  hg : B.heap.size ≤ g
  hb : ∀ k, b = some k → B.heap.size ≤ k
  hi : ∀ ad, Ai = some ad → B.heap.size ≤ ad.block ∧ b ≠ some ad.block ∧ ad.block ≠ g
  ho : ∀ ad, Ao = some ad → B.heap.size ≤ ad.block ∧ b ≠ some ad.block ∧ ad.block ≠ g
  hio : ∀ ad ad', Ai = some ad → Ao = some ad' → ad.block ≠ ad'.block

section
variable {B w w' : World} {g m m' : Nat} {b b' : Option Nat} {q q' I I' O O' : List ByteArray} {Ai Ao A' : Option Addr} {ci co c' : Nat}
theorem RoSt.alloc (h : RoSt B w g b m q Ai ci I Ao co O) (o : Obj) : RoSt B (w.alloc o) g b m q Ai ci I Ao co O :=
  ⟨h.ring.touch ((Touch.refl (fun _ => False) w).alloc o) (fun h => h) (fun _ _ h => h), h.si.alloc o, h.so.alloc o, h.fresh.alloc o, h.hg, h.hb, h.hi, h.ho, h.hio⟩
theorem RoSt.ringTo (h : RoSt B w g b m q Ai ci I Ao co O) (h' : RingStr w' g b' m' q') (ht : Touch (Foot g b) w w') (hb' : ∀ k, b' = some k → b = some k ∨ w.heap.size ≤ k) : RoSt B w' g b' m' q' Ai ci I Ao co O := by
  have hn : ∀ {A : Option Addr} {c : Nat} {l : List ByteArray}, Sl strE w A c l → (∀ ad, A = some ad → B.heap.size ≤ ad.block ∧ b ≠ some ad.block ∧ ad.block ≠ g) → ∀ ad, A = some ad → B.heap.size ≤ ad.block ∧ b' ≠ some ad.block ∧ ad.block ≠ g := fun hs hA ad ha => by
    obtain ⟨h1, h2, h3⟩ := hA ad ha
    refine ⟨h1, fun e => ?_, h3⟩
    rcases hb' _ e with e | e
    · exact h2 e
    · have := hs.lt ad ha; omega
  refine ⟨h', h.si.touch ht (fun ad ha hf => ?_), h.so.touch ht (fun ad ha hf => ?_), h.fresh.trans ht (fun k hk hf => ?_), h.hg, fun k hk => ?_, hn h.si h.hi, hn h.so h.ho, h.hio⟩
  · obtain ⟨_, h2, h3⟩ := h.hi ad ha
    rcases hf with e | e
    · exact h3 e
    · exact h2 e
  · obtain ⟨_, h2, h3⟩ := h.ho ad ha
    rcases hf with e | e
    · exact h3 e
    · exact h2 e
  · rcases hf with e | e
    · have := h.hg; omega
    · have := h.hb k e; omega
  · rcases hb' k hk with e | e
    · exact h.hb k e
    · have := h.fresh.size; omega
theorem RoSt.inTo (h : RoSt B w g b m q Ai ci I Ao co O) (hs : Sl strE w' A' c' I') (ht : Touch (fun k => Ai.map Addr.block = some k) w w') (hA : A'.map Addr.block = Ai.map Addr.block ∨ A'.map Addr.block = some w.heap.size) : RoSt B w' g b m q A' c' I' Ao co O := by
  have hcase : ∀ ad, A' = some ad → (∃ ad0, Ai = some ad0 ∧ ad.block = ad0.block) ∨ ad.block = w.heap.size := fun ad ha => by
    subst ha
    rcases hA with e | e
    · cases Ai with
      | none => cases e
      | some ad0 => exact .inl ⟨ad0, rfl, by simpa using e⟩
    · exact .inr (by simpa using e)
  have hne : ∀ k, Ai.map Addr.block = some k → ∃ ad, Ai = some ad ∧ ad.block = k := fun k e => by
    cases Ai with
    | none => cases e
    | some ad => exact ⟨ad, rfl, by simpa using e⟩
  refine ⟨h.ring.touch ht (fun e => ?_) (fun k hk e => ?_), hs, h.so.touch ht (fun ad ha e => ?_), h.fresh.trans ht (fun k hk e => ?_), h.hg, h.hb, fun ad ha => ?_, h.ho, fun ad ad' ha ha' => ?_⟩
  · obtain ⟨ad, ha, e⟩ := hne _ e
    exact (h.hi ad ha).2.2 e
  · obtain ⟨ad, ha, e⟩ := hne _ e
    exact (h.hi ad ha).2.1 (by rw [e]; exact hk)
  · obtain ⟨ad', ha', e⟩ := hne _ e
    exact h.hio ad' ad ha' ha e
  · obtain ⟨ad, ha, e⟩ := hne _ e
    have := (h.hi ad ha).1; omega
  · rcases hcase ad ha with ⟨ad0, h0, e⟩ | e
    · rw [e]; exact h.hi ad0 h0
    · rw [e]
      refine ⟨h.fresh.size, fun e2 => ?_, fun e2 => ?_⟩
      · have := h.ring.ltb _ e2; omega
      · have := h.ring.lt; omega
  · rcases hcase ad ha with ⟨ad0, h0, e⟩ | e
    · rw [e]; exact h.hio ad0 ad' h0 ha'
    · rw [e]; have := h.so.lt ad' ha'; omega
theorem RoSt.swap (h : RoSt B w g b m q Ai ci I Ao co O) : RoSt B w g b m q Ao co O Ai ci I :=
  ⟨h.ring, h.so, h.si, h.fresh, h.hg, h.hb, h.ho, h.hi, fun ad ad' h1 h2 => (h.hio ad' ad h2 h1).symm⟩
theorem RoSt.outTo (h : RoSt B w g b m q Ai ci I Ao co O) (hs : Sl strE w' A' c' O') (ht : Touch (fun k => Ao.map Addr.block = some k) w w') (hA : A'.map Addr.block = Ao.map Addr.block ∨ A'.map Addr.block = some w.heap.size) : RoSt B w' g b m q Ai ci I A' c' O' :=
  (h.swap.inTo hs ht hA).swap
end

set_option maxRecDepth 100000 in
set_option maxHeartbeats 4000000 in
theorem ringOrder.core (x x1 : Int) (m : Nat) (hx1 : (if 50 < x then (50 : Int) else x) = x1) (hx : (if 1 < x1 then x1 else 1) = (m : Int)) (hm : 1 ≤ m ∧ m ≤ 50) (A : Option Addr) (c : Nat) (L : List ByteArray) (A2 : Option Addr) (c2 : Nat) (T : List Bool) (w : World) (hr : Rd strE w A c L) (hr2 : Rd boolE w A2 c2 T) :
    Calls Try.prog 4 #[.int .i64 x, .slice A L.length c, .slice A2 T.length c2] w fun e w' => e = .returned (.bool true) ∧ Below w.heap.size w w' := by
  have hlc := hr.1
  have hcm := hr.2.1
  have hlc2 := hr2.1
  have hcm2 := hr2.2.1
  unfold maxLen at hcm hcm2
  have HR := Lib.hid hr
  have HR2 := Lib.hid hr2
  clear hr hr2
  go_enter Try.func4, Try.ntmps4
  go_wp2_with fail
  refine (awake04_any _).mono ?_
  rintro e w1 ⟨rfl, t1⟩
  go_wp2_with fail
  clear hx hx1
  refine (ringStr_new m w1).mono ?_
  rintro e w2 ⟨rfl, h2, t2⟩
  rw [show (max 0 (min (m : Int) 4096)).toNat = m by omega] at h2
  have H2 : Hid (RoSt w w2 w1.heap.size none m [] none 0 [] none 0 []) :=
    ⟨h2, Sl.nil _ _, Sl.nil _ _, t1.trans t2 (fun _ _ h => h), t1.size, (fun _ e => by cases e), (fun _ e => by cases e), (fun _ e => by cases e), (fun _ _ e => by cases e)⟩
  generalize w1.heap.size = g at *
  clear h2 t1 t2
  go_wp2_with fail
  go_loopw [8, 9, 10] (fun s8 s9 i wr => ∃ (k : Nat) (b : Option Nat) (q : List ByteArray) (Ai : Option Addr) (ci : Nat) (I : List ByteArray) (Ao : Option Addr) (co : Nat) (O : List ByteArray), k ≤ 100 ∧ k ≤ L.length ∧ s8 = .slice Ai I.length ci ∧ s9 = .slice Ao O.length co ∧ i = .int .i64 k ∧ RoSt w wr g b m q Ai ci I Ao co O ∧ Hid (I = O ++ q) ∧ I.length ≤ k) (fun _ _ i _ => 100 - (intOf i).toNat)
  case atStart => exact ⟨0, none, [], none, 0, [], none, 0, [], by omega, by omega, rfl, rfl, rfl, H2.out, rfl, by simp⟩
  case round =>
    obtain ⟨k, b, q, Ai, ci, I, Ao, co, O, hk100, hkL, rfl, rfl, rfl, hst, hIO, hIl⟩ := hrel
    have HS := Lib.hid hst
    clear hst
    rcases (show (k < L.length ∧ k < 100) ∨ ¬ ((k : Int) < (L.length : Int)) ∨ ((k : Int) < (L.length : Int) ∧ ¬ ((k : Int) < 100)) by omega) with ⟨h1, h2⟩ | hend
    · · have hk1 : (k : Int) < (L.length : Int) := by omega
        have hk2 : (k : Int) < 100 := by omega
        have hd1 : decide ((k : Int) < (L.length : Int)) = true := decide_eq_true hk1
        have hd2 : decide ((k : Int) < 100) = true := decide_eq_true hk2
        obtain ⟨gA, oA, hA, hgA, hc⟩ := (HR.out.touch HS.out.fresh (fun _ _ _ h => h)).str_at k h1
        have hcell : Hid (∀ wx, Fresh w wx → wx.cell? ⟨gA, oA + k, none⟩ = some (.string (L.getD k ByteArray.empty))) := fun wx hf => by
          obtain ⟨gB, oB, hB, _, hcB⟩ := (HR.out.touch hf (fun _ _ _ h => h)).str_at k h1
          rw [hA] at hB
          injection hB with hB
          injection hB with e1 e2
          rw [e1, e2]; exact hcB
        generalize L.getD k ByteArray.empty = s at *
        subst hA
        go_wp2_with fail
        refine (ringStr_put g b m q s _ HS.out.ring).mono ?_
        rintro e w3 ⟨rfl, b3, r3, t3, hb3⟩
        obtain ⟨r, hr⟩ : ∃ r : Int, Hid ((if q.length < m then (0 : Int) else 7) = r) := ⟨_, rfl⟩
        obtain ⟨q3, hq3⟩ : ∃ q3, Hid ((if q.length < m then q ++ [s] else q) = q3) := ⟨_, rfl⟩
        rw [hr.out]
        rw [hq3.out] at r3
        have HS3 := Lib.hid (HS.out.ringTo r3 t3 hb3)
        clear r3 t3 hb3 hc
        have hc3 := hcell.out w3 HS3.out.fresh
        go_upto_if 38 with (fail)
        go_cut [8] (fun v wx => ∃ (b4 : Option Nat) (q4 : List ByteArray) (Ai4 : Option Addr) (ci4 : Nat) (I4 : List ByteArray), v = .slice Ai4 I4.length ci4 ∧ RoSt w wx g b4 m q4 Ai4 ci4 I4 Ao co O ∧ Hid (I4 = O ++ q4) ∧ I4.length ≤ k + 1)
        case first =>
          by_cases hq : q.length < m
          · have hr1 : r = 0 := by have := hr.out; rw [if_pos hq] at this; exact this.symm
            have hq1 : Hid (q3 = q ++ [s]) := by have := hq3.out; rw [if_pos hq] at this; exact this.symm
            subst hr1
            go_wp2_with (refine app_str rfl rfl (l := I) (l2 := [s]) rfl rfl (by exact (HS3.out.alloc _).si) (by exact Sl.rd (Sl.lit strE w3 _ rfl _ _ rfl _ rfl (by decide))) (by simp; omega) ?_; intro A5 c5 L5 w5 hL5 hs5 ht5 hA5; have HS5 := Lib.hid ((HS3.out.alloc _).inTo hs5 ht5 hA5); clear hs5 ht5 hA5)
            go_meet
            case rel => exact ⟨b3, q3, A5, c5, L5, rfl, HS5.out, by show _ = _; rw [hL5.out, hIO.out, hq1.out, List.append_assoc], by rw [hL5.out]; simp; omega⟩
          · have hr1 : r = 7 := by have := hr.out; rw [if_neg hq] at this; exact this.symm
            have hq1 : Hid (q3 = q) := by have := hq3.out; rw [if_neg hq] at this; exact this.symm
            subst hr1
            go_wp2
            go_meet
            case rel => exact ⟨b3, q3, Ai, ci, I, rfl, HS3.out, by show _ = _; rw [hIO.out, hq1.out], by omega⟩
        case rest =>
          obtain ⟨b4, q4, A4, c4, I4, rfl, hst, hIO4, hIl4⟩ := hcut
          have HS4 := Lib.hid hst
          clear hst hIO hIl HS HS3 hc3 hq3 hr
          have hol : O.length ≤ k + 1 := by have := hIO4.out; rw [this] at hIl4; simp at hIl4; omega
          by_cases ht : k < T.length
          · have hk3 : (k : Int) < (T.length : Int) := by omega
            obtain ⟨gT, oT, hT, hgT, hcT⟩ := (HR2.out.touch HS4.out.fresh (fun _ _ _ h => h)).bool_at k ht
            generalize T.getD k false = tk at *
            subst hT
            cases tk
            · go_wp2
              go_roundw
              case rel => exact ⟨k + 1, b4, q4, A4, c4, I4, Ao, co, O, by omega, by omega, rfl, rfl, by go_num, HS4.out, hIO4, by omega⟩
              case measure => simp [intOf]; omega
            · go_wp2_with fail
              refine (ringStr_take g b4 m q4 _ HS4.out.ring).mono ?_
              rintro e w5 ⟨rfl, r5, t5⟩
              have HS5 := Lib.hid (HS4.out.ringTo r5 t5 (fun _ h => .inl h))
              clear r5 t5
              by_cases hq : q4.length = 0
              · rw [if_pos hq]
                have hq4 : Hid (q4.tail = q4) := by rw [List.eq_nil_of_length_eq_zero hq]; rfl
                go_wp2
                go_roundw
                case rel => exact ⟨k + 1, b4, q4.tail, A4, c4, I4, Ao, co, O, by omega, by omega, rfl, rfl, by go_num, HS5.out, by show _ = _; rw [hq4.out]; exact hIO4.out, by omega⟩
                case measure => simp [intOf]; omega
              · rw [if_neg hq]
                have hq4 : Hid (q4 = q4.getD 0 ByteArray.empty :: q4.tail) := by
                  cases q4 with
                  | nil => simp at hq
                  | cons a l => rfl
                generalize q4.getD 0 ByteArray.empty = s4 at *
                generalize q4.tail = q5 at *
                go_wp2_with (refine app_str rfl rfl (l := O) (l2 := [s4]) rfl rfl (by exact (HS5.out.alloc _).so) (by exact Sl.rd (Sl.lit strE w5 _ rfl _ _ rfl _ rfl (by decide))) (by simp; omega) ?_; intro A6 c6 L6 w6 hL6 hs6 ht6 hA6; have HS6 := Lib.hid ((HS5.out.alloc _).outTo hs6 ht6 hA6); clear hs6 ht6 hA6)
                go_roundw
                case rel => exact ⟨k + 1, b4, q5, A4, c4, I4, A6, c6, L6, by omega, by omega, rfl, rfl, by go_num, HS6.out, by show _ = _; rw [hIO4.out, hL6.out, hq4.out, List.append_assoc]; rfl, by omega⟩
                case measure => simp [intOf]; omega
          · have hk3 : ¬ ((k : Int) < (T.length : Int)) := by omega
            go_wp2
            go_roundw
            case rel => exact ⟨k + 1, b4, q4, A4, c4, I4, Ao, co, O, by omega, by omega, rfl, rfl, by go_num, HS4.out, hIO4, by omega⟩
            case measure => simp [intOf]; omega
    · have hOI : Hid (O.length + q.length = I.length) := by show _ = _; rw [hIO.out, List.length_append]
      have hqm := HS.out.ring.len_le
      rcases hend with hk1 | ⟨hk1, hk2⟩
      all_goals
        go_wp2_with fail
        refine (ringStr_clear g b m q _ HS.out.ring).mono ?_
        rintro e w3 ⟨A3, c3, rfl, s3, r3, t3, hA3, _⟩
        have HS3 := Lib.hid (HS.out.ringTo r3 (t3.mono (fun _ _ h => .inl h)) (fun _ e => by cases e))
        clear r3 t3
        go_wp2_with (first | (refine app_str rfl rfl (l := O) (l2 := q) rfl rfl (by exact HS3.out.so) (by exact s3.rd) (by have := hOI.out; omega) ?_; intro A6 c6 L6 w6 hL6 hs6 ht6 hA6; have HS6 := Lib.hid (HS3.out.outTo hs6 ht6 hA6); clear hs6 ht6 hA6; have hne : ((L6.length : Int) != (I.length : Int)) = false := by rw [hL6.out, hIO.out]; simp) | fail)
        have hLI : L6 = I := by rw [hL6.out, hIO.out]
        clear s3 HS3 HS hL6 hOI hIO
        refine (ringStr_len g none m [] _ HS6.out.ring).mono ?_
        rintro e w7 ⟨rfl, rfl⟩
        rw [show (([] : List ByteArray).length : Int) = 0 from rfl]
        go_wp2_with fail
        subst hLI
        go_loopw [13, 83] (fun _ i wr => ∃ k : Nat, k ≤ L6.length ∧ i = .int .i64 k ∧ RoSt w wr g none m [] Ai ci L6 A6 c6 L6) (fun _ i _ => L6.length - (intOf i).toNat)
        case atStart => exact ⟨0, by omega, rfl, HS6.out⟩
        case round =>
          obtain ⟨n, hn, rfl, hst⟩ := hrel
          have HS7 := Lib.hid hst
          clear hst
          by_cases hlt : n < L6.length
          · have hn1 : (n : Int) < (L6.length : Int) := by omega
            have hn0 : (0 : Int) ≤ (n : Int) := by omega
            obtain ⟨gI, oI, hgI, _, hcI⟩ := HS7.out.si.str_at n hlt
            obtain ⟨gO, oO, hgO, _, hcO⟩ := HS7.out.so.str_at n hlt
            generalize L6.getD n ByteArray.empty = sn at *
            subst hgI hgO
            go_wp2_with fail
            go_quiet (fail)
            have HS8 : Hid (RoSt w (wr.drewN nq) g none m [] (some ⟨gI, oI, none⟩) ci L6 (some ⟨gO, oO, none⟩) c6 L6) :=
              ⟨HS7.out.ring.same rfl, HS7.out.si, HS7.out.so, HS7.out.fresh.drewN _, HS7.out.hg, HS7.out.hb, HS7.out.hi, HS7.out.ho, HS7.out.hio⟩
            go_wp2
            go_roundw
            case rel => exact ⟨n + 1, by omega, by go_num, HS8.out⟩
            case measure => simp [intOf]; omega
          · have hn1 : ¬ ((n : Int) < (L6.length : Int)) := by omega
            go_wp2
            go_ret
            exact ⟨rfl, HS7.out.fresh.below (Nat.le_refl _) (fun _ _ h => h)⟩

theorem ringOrder.walk (a0 : Int) (v v2 : Value) (w : World) (_h0 : (Lit.int .i64 a0).wf = true) {H : Type} {enc : TypeId × Value → H} {base base2 : Nat} {d d2 : DataW H} {p p2 : List MemPlace} (hv : Value.okWide Try.prog w .any base 33 v) (h : DataW.Trod enc Try.prog w 0 (fun _ => true) true 33 v d p) (hv2 : Value.okWide Try.prog w .any base2 34 v2) (h2 : DataW.Trod enc Try.prog w 0 (fun _ => true) true 34 v2 d2 p2) :
    Calls Try.prog 4 #[.int .i64 a0, v, v2] w fun e w' => e = .returned (.bool true) ∧ Below w.heap.size w w' := by
  obtain ⟨A, c, l, rfl, hr, _⟩ := open_rd_str hv h
  obtain ⟨A2, c2, l2, rfl, hr2⟩ := open_rd_bool hv2 h2
  exact ringOrder.core a0 _ (if 1 < (if 50 < a0 then (50 : Int) else a0) then (if 50 < a0 then (50 : Int) else a0) else 1).toNat rfl (by split <;> (try split) <;> omega) (by split <;> (try split) <;> omega) A c l A2 c2 l2 w hr hr2
end Go.Proofs.Ytfieckhhckfjiaa

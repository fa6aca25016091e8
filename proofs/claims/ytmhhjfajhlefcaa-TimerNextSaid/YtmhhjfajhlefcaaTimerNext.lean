/-
  polliwoglaw08.TimerNext: when the next one is over is told.
-/
import Derived.Test.YtmhhjfajhlefcaaAwakeT
import Derived.Test.YtmhhjfajhlefcaaNum
import Derived.Test.YtmhhjfajhlefcaaOpen
import Derived.Deep.DeepCutAuto
import Derived.Deep.CutBlock
namespace Go.Proofs.Ytmhhjfajhlefcaa
open Go.RowKit

/-- How many run. -/
def runs (l : List Int) : Nat := (l.filter fun x => decide (0 < x)).length

theorem foldl_next (l : List Int) (h : ∀ x ∈ l, 0 ≤ x) : ∀ b : Int, 0 ≤ b →
    let m := l.foldl (fun b n => if 0 < n ∧ (b = 0 ∨ n < b) then n else b) b
    0 ≤ m ∧ (m = 0 ↔ b = 0 ∧ ∀ x ∈ l, x = 0) ∧ (0 < m → (m = b ∨ m ∈ l) ∧ (0 < b → m ≤ b) ∧ ∀ x ∈ l, 0 < x → m ≤ x) := by
  induction l with
  | nil => intro b hb; simp; omega
  | cons a l ih =>
    intro b hb
    have ha := h a (by simp)
    have ih' := ih (fun x hx => h x (by simp [hx])) (if 0 < a ∧ (b = 0 ∨ a < b) then a else b) (by split <;> omega)
    simp only [List.foldl_cons]
    obtain ⟨i1, i2, i3⟩ := ih'
    refine ⟨i1, ?_, ?_⟩
    · rw [i2]
      constructor
      · rintro ⟨h1, h2⟩
        split at h1
        · omega
        · exact ⟨h1, fun x hx => by rcases List.mem_cons.1 hx with rfl | hx; (· omega); exact h2 x hx⟩
      · rintro ⟨h1, h2⟩
        have := h2 a (by simp)
        exact ⟨by rw [if_neg (by omega)]; exact h1, fun x hx => h2 x (by simp [hx])⟩
    · intro hm
      obtain ⟨j1, j2, j3⟩ := i3 hm
      by_cases hc : 0 < a ∧ (b = 0 ∨ a < b)
      · rw [if_pos hc] at j1 j2 j3 hm ⊢
        have j2' := j2 hc.1
        refine ⟨.inr ?_, fun hb0 => by omega, fun x hx hx0 => ?_⟩
        · rcases j1 with j1 | j1
          · simp [j1]
          · exact List.mem_cons_of_mem _ j1
        · rcases List.mem_cons.1 hx with rfl | hx
          · exact j2'
          · exact j3 x hx hx0
      · rw [if_neg hc] at j1 j2 j3 hm ⊢
        refine ⟨?_, j2, fun x hx hx0 => ?_⟩
        · rcases j1 with j1 | j1
          · exact .inl j1
          · exact .inr (List.mem_cons_of_mem _ j1)
        · rcases List.mem_cons.1 hx with rfl | hx
          · have : b ≠ 0 ∧ b ≤ x := by omega
            have := j2 (by omega)
            omega
          · exact j3 x hx hx0

theorem next_spec (l : List Int) (h5 : l.length = 5) (h : ∀ x ∈ l, 0 ≤ x) :
    0 ≤ Tm.next l ∧ (Tm.next l = 0 ↔ ∀ x ∈ l, x = 0) ∧ (0 < Tm.next l → Tm.next l ∈ l ∧ ∀ x ∈ l, 0 < x → Tm.next l ≤ x) := by
  have e : Tm.next l = l.foldl (fun b n => if 0 < n ∧ (b = 0 ∨ n < b) then n else b) 0 := by
    unfold Tm.next Tm.nextTo
    rw [List.take_of_length_le (by omega)]
  have := foldl_next l h 0 (by omega)
  rw [← e] at this
  obtain ⟨h1, h2, h3⟩ := this
  refine ⟨h1, by rw [h2]; simp, fun hp => ?_⟩
  obtain ⟨k1, _, k3⟩ := h3 hp
  refine ⟨?_, k3⟩
  rcases k1 with k1 | k1
  · omega
  · exact k1

theorem over_nil (l : List Int) (h5 : l.length = 5) : Tm.over l = [] ↔ ∀ x ∈ l, x ≠ 1 := by
  obtain ⟨a, b, c, d, e, rfl⟩ := five h5
  have hr : List.range 5 = [0, 1, 2, 3, 4] := rfl
  unfold Tm.over Tm.overTo
  rw [hr]
  simp only [List.map_eq_nil_iff, List.filter_eq_nil_iff]
  simp

theorem tick_next (l : List Int) (h5 : l.length = 5) (h : ∀ x ∈ l, 0 ≤ x) (h1 : 1 < Tm.next l) :
    Tm.over l = [] ∧ Tm.next (Tm.tick l) = Tm.next l - 1 ∧ runs (Tm.tick l) = runs l := by
  obtain ⟨n1, n2, n3⟩ := next_spec l h5 h
  obtain ⟨n4, n5⟩ := n3 (by omega)
  have hne : ∀ x ∈ l, x ≠ 1 := fun x hx he => by have := n5 x hx (by omega); omega
  have hd : ∀ x ∈ l, Tm.dec x = 0 ↔ x = 0 := fun x hx => by have := hne x hx; have := h x hx; unfold Tm.dec; split <;> omega
  have hpos : ∀ x ∈ Tm.tick l, 0 ≤ x := by
    intro x hx
    obtain ⟨y, hy, rfl⟩ := List.mem_map.1 hx
    have := h y hy
    unfold Tm.dec; split <;> omega
  obtain ⟨m1, m2, m3⟩ := next_spec (Tm.tick l) (by simp [Tm.tick, h5]) hpos
  refine ⟨(over_nil l h5).2 hne, ?_, ?_⟩
  · have hm0 : Tm.next (Tm.tick l) ≠ 0 := by
      intro h0
      have := m2.1 h0 _ (List.mem_map.2 ⟨_, n4, rfl⟩)
      have := (hd _ n4).1 this
      omega
    obtain ⟨m4, m5⟩ := m3 (by omega)
    have a1 := m5 _ (List.mem_map.2 ⟨_, n4, rfl⟩) (by unfold Tm.dec; split <;> omega)
    obtain ⟨y, hy, he⟩ := List.mem_map.1 m4
    have hy0 : 0 < y := by
      have := h y hy
      have := hd y hy
      omega
    have := n5 y hy hy0
    unfold Tm.dec at he a1
    split at he <;> split at a1 <;> omega
  · unfold runs Tm.tick
    rw [List.filter_map, List.length_map]
    congr 1
    refine List.filter_congr fun x hx => ?_
    have := hd x hx
    have := h x hx
    have h3 : 0 ≤ Tm.dec x := by unfold Tm.dec; split <;> omega
    simp only [Function.comp, decide_eq_decide]
    omega

theorem filter_dec (l : List Int) (h : ∀ x ∈ l, 0 ≤ x) : ((Tm.tick l).filter fun x => decide (0 < x)).length + (l.filter fun x => decide (x = 1)).length = (l.filter fun x => decide (0 < x)).length := by
  induction l with
  | nil => rfl
  | cons a l ih =>
    have ih' := ih fun x hx => h x (by simp [hx])
    have ha := h a (by simp)
    have e : Tm.tick (a :: l) = Tm.dec a :: Tm.tick l := rfl
    rw [e]
    by_cases h0 : a = 0
    · subst h0; simpa [Tm.dec] using ih'
    · by_cases h1 : a = 1
      · subst h1
        simp [Tm.dec] at ih' ⊢
        omega
      · have h2 : 0 < Tm.dec a := by unfold Tm.dec; rw [if_neg h0]; omega
        have h3 : 0 < a := by omega
        simp [h1, h2, h3] at ih' ⊢
        omega

theorem tick_one (l : List Int) (h5 : l.length = 5) (h : ∀ x ∈ l, 0 ≤ x) (h1 : Tm.next l = 1) : Tm.over l ≠ [] ∧ runs (Tm.tick l) < runs l := by
  obtain ⟨n1, n2, n3⟩ := next_spec l h5 h
  obtain ⟨n4, n5⟩ := n3 (by omega)
  rw [h1] at n4
  refine ⟨fun he => (over_nil l h5).1 he 1 n4 rfl, ?_⟩
  have := filter_dec l h
  have h4 : 0 < (l.filter fun x => decide (x = 1)).length := List.length_pos_of_mem (List.mem_filter.2 ⟨n4, by simp⟩)
  unfold runs
  omega
theorem runs_le (l : List Int) (h5 : l.length = 5) : runs l ≤ 5 := by
  have := List.length_filter_le (fun x => decide (0 < x)) l
  unfold runs
  omega
theorem runs_zero (l : List Int) (h5 : l.length = 5) (h : ∀ x ∈ l, 0 ≤ x) : runs l = 0 ↔ Tm.next l = 0 := by
  rw [(next_spec l h5 h).2.1]
  unfold runs
  rw [List.length_eq_zero_iff, List.filter_eq_nil_iff]
  constructor
  · intro hh x hx
    have := hh x hx
    have := h x hx
    simp at *
    omega
  · intro hh x hx
    have := hh x hx
    simp
    omega
theorem next_bd5 (l : List Int) (h5 : l.length = 5) (h : ∀ x ∈ l, 0 ≤ x ∧ x ≤ 1048576) : 0 ≤ Tm.next l ∧ Tm.next l ≤ 1048576 := next_bd l h 5 (by omega)

set_option maxHeartbeats 4000000 in
theorem timerNext.core (A : Option Addr) (c : Nat) (L : List Int) (w : World) (hr : Rd intE w A c L) :
    Calls Try.prog 4 #[.slice A L.length c] w fun e w' => e = .returned (.bool true) ∧ Below w.heap.size w w' := by
  have hlc := hr.1
  have hcm := hr.2.1
  unfold maxLen at hcm
  have HR := Lib.hid hr
  clear hr
  go_enter Try.func4, Try.ntmps4
  go_wp2_with fail
  refine (awake_any _).mono ?_
  rintro e w1 ⟨rfl, t1⟩
  have HT := Lib.hid t1
  have hs1 := t1.size
  clear t1
  go_upto_block 0 with (fail)
  go_cut [] (fun wx => ∃ l, Bk wx w1.heap.size 25 l [] ∧ Touch (fun j => w.heap.size ≤ j) w wx)
  case first =>
    go_wp2_with fail
    go_loopw [4] (fun i wr => ∃ (k : Nat) (l : List Int), k ≤ 5 ∧ k ≤ L.length ∧ i = .int .i64 k ∧ Bk wr w1.heap.size 25 l [] ∧ Touch (fun j => w.heap.size ≤ j) w wr) (fun i _ => 5 - (intOf i).toNat)
    case atStart => exact ⟨0, _, by omega, by omega, rfl, Bk.zero w1 _, (HT.out.mono (fun _ _ h => h.elim)).alloc _⟩
    case round =>
      obtain ⟨k, l, hk5, hkl, rfl, hb, ht⟩ := hrel
      by_cases h1 : k < L.length
      · by_cases h2 : k < 5
        · obtain ⟨g, o, rfl, hg, hc⟩ := (HR.out.touch ht (fun ad ha hl => by have := HR.out.lt hl ad ha; omega)).int_at k h1
          generalize L.getD k 0 = x at *
          have HB := Lib.hid hb
          have HT2 := Lib.hid ht
          clear hb ht
          obtain ⟨m, hm⟩ : ∃ m, (if 50 < x then (50 : Int) else x) = m := ⟨_, rfl⟩
          obtain ⟨m', hm'⟩ : ∃ m', (if 1 < m then m else 1) = m' := ⟨_, rfl⟩
          go_wp2_with fail
          clear hm hm'
          refine (start_any _ _ _ _ _ _ _ HB.out).mono ?_
          rintro e w3 ⟨rfl, b3, t3⟩
          have HN : Hid (Bk w3 w1.heap.size 25 (Tm.start l k m') [] ∧ Touch (fun j => w.heap.size ≤ j) w w3) := ⟨b3, HT2.out.trans t3 (fun j _ hj => by have : j = w1.heap.size := hj; omega)⟩
          clear b3 t3
          go_wp2
          go_roundw
          case rel => exact ⟨k + 1, _, by omega, by omega, by go_num, HN.out.1, HN.out.2⟩
          case measure => simp [intOf]; omega
        · have HB := Lib.hid hb
          have HT2 := Lib.hid ht
          clear hb ht
          go_wp2
          go_meet
          case rel => exact ⟨l, HB.out, HT2.out⟩
      · have HB := Lib.hid hb
        have HT2 := Lib.hid ht
        clear hb ht
        go_wp2
        go_meet
        case rel => exact ⟨l, HB.out, HT2.out⟩
  case rest =>
    obtain ⟨l, hb, ht⟩ := hcut
    have HB := Lib.hid hb
    have HT2 := Lib.hid ht
    clear hb ht
    go_wp2_with fail
    go_loopw [29] (fun i wr => ∃ (k : Nat) (l : List Int), k ≤ 5 ∧ i = .int .i64 k ∧ runs l + k ≤ 5 ∧ Bk wr w1.heap.size 25 l [] ∧ Touch (fun j => w.heap.size ≤ j) w wr) (fun i _ => 5 - (intOf i).toNat)
    case atStart => exact ⟨0, _, by omega, rfl, by have := runs_le l HB.out.1; omega, HB.out, HT2.out⟩
    case round =>
      obtain ⟨k, l, hk5, rfl, hrun, hb, ht⟩ := hrel
      by_cases hlt : k < 5
      · go_wp2_with fail
        refine (next_any _ _ _ _ _ hb).mono ?_
        rintro e w3 ⟨rfl, rfl⟩
        have hnb := next_bd5 l hb.1 hb.2.1
        have HB := Lib.hid hb
        have HT2 := Lib.hid ht
        have HRu := Lib.hid hrun
        have HN : Hid (Tm.next l = Tm.next l) := rfl
        clear hb ht hrun
        by_cases hz : Tm.next l = 0
        · rw [hz]
          go_wp2
          go_ret
          exact ⟨rfl, HT2.out.below (Nat.le_refl _) (fun j hj h => by omega)⟩
        · obtain ⟨n, hn⟩ : ∃ n, Hid (Tm.next l = n) := ⟨_, rfl⟩
          rw [hn.out] at hnb hz ⊢
          have hn1 : 1 ≤ n := by omega
          clear HN hz
          rw [show decide (0 < n) = true from by simp; omega]
          go_wp2_with fail
          go_loopw [41] (fun i wr => ∃ (k : Nat) (l' : List Int), k ≤ n - 1 ∧ i = .int .i64 k ∧ Tm.next l' = n - k ∧ runs l' = runs l ∧ Bk wr w1.heap.size 25 l' [] ∧ Touch (fun j => w.heap.size ≤ j) w wr) (fun i _ => (n - 1 - intOf i).toNat)
          case atStart => exact ⟨0, l, by omega, rfl, by rw [hn.out]; omega, rfl, HB.out, HT2.out⟩
          case round =>
            obtain ⟨q, l', hq, rfl, hnx, hru, hb, ht⟩ := hrel
            have hpos := fun x hx => (hb.2.1 x hx).1
            by_cases hlq : q < n - 1
            · obtain ⟨g1, g2, g3⟩ := tick_next l' hb.1 hpos (by omega)
              go_wp2_with fail
              refine (tick_any _ _ (by decide) _ _ _ hb).mono ?_
              rintro e w4 ⟨A4, ca4, rfl, s4, b4, t4⟩
              have HN : Hid (Tm.next (Tm.tick l') = n - (q + 1 : Nat) ∧ runs (Tm.tick l') = runs l ∧ Bk w4 w1.heap.size 25 (Tm.tick l') [] ∧ Touch (fun j => w.heap.size ≤ j) w w4) :=
                ⟨by rw [g2, hnx]; omega, g3.trans hru, b4, ht.trans t4 (fun j _ hj => by have : j = w1.heap.size := hj; omega)⟩
              rw [g1]
              clear g1 g2 g3 hb ht hnx hru s4 b4 t4 hpos
              go_wp2
              go_roundw
              case rel => exact ⟨q + 1, _, by omega, by go_num, HN.out.1, HN.out.2.1, HN.out.2.2.1, HN.out.2.2.2⟩
              case measure => simp [intOf]; omega
            · obtain ⟨g1, g2⟩ := tick_one l' hb.1 hpos (by omega)
              have hq' : ¬ ((q : Int) < n - 1) := hlq
              have hbl := Lib.hid hb
              have htl := Lib.hid ht
              clear hb ht hnx hpos
              go_wp2_with fail
              refine (tick_any _ _ (by decide) _ _ _ hbl.out).mono ?_
              rintro e w4 ⟨A4, ca4, rfl, s4, b4, t4⟩
              have HN : Hid (runs (Tm.tick l') + (k + 1) ≤ 5 ∧ Bk w4 w1.heap.size 25 (Tm.tick l') [] ∧ Touch (fun j => w.heap.size ≤ j) w w4) :=
                ⟨by have := HRu.out; omega, b4, htl.out.trans t4 (fun j _ hj => by have : j = w1.heap.size := hj; omega)⟩
              have g3 : ((Tm.over l').length : Int) ≠ 0 := by have := List.length_pos_iff.2 g1; omega
              have g4 : (((Tm.over l').length : Int) == 0) = false := beq_eq_false_iff_ne.2 g3
              generalize (Tm.over l').length = len at *
              clear g1 g2 s4 b4 t4 hru g3
              go_wp2
              go_roundw
              case rel => exact ⟨k + 1, _, by omega, by go_num, HN.out.1, HN.out.2.1, HN.out.2.2⟩
              case measure => simp [intOf]; omega
      · have hz : Tm.next l = 0 := (runs_zero l hb.1 (fun x hx => (hb.2.1 x hx).1)).1 (by omega)
        have HB := Lib.hid hb
        have HBel : Hid (Below w.heap.size w wr) := ht.below (Nat.le_refl _) (fun j hj h => by omega)
        have hkk : ¬ ((k : Int) < 5) := by omega
        clear hb ht hrun
        go_wp2_with fail
        refine (next_any _ _ _ _ _ HB.out).mono ?_
        rintro e w3 ⟨rfl, rfl⟩
        rw [hz]
        go_wp2
        go_ret
        exact ⟨rfl, HBel.out⟩

theorem timerNext.walk (v : Value) (w : World) {H : Type} {enc : TypeId × Value → H} {base : Nat} {d : DataW H} {p : List MemPlace} (hv : Value.okWide Try.prog w .any base 27 v) (h : DataW.Trod enc Try.prog w 0 (fun _ => true) true 27 v d p) :
    Calls Try.prog 4 #[v] w fun e w' => e = .returned (.bool true) ∧ Below w.heap.size w w' := by
  obtain ⟨A, c, l, rfl, hr, _⟩ := open_rd_int hv h
  exact timerNext.core A c l w hr
end Go.Proofs.Ytmhhjfajhlefcaa

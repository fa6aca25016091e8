/-
  ring.Ring[string]: what each call does.
-/
import Derived.Test.YtngljhpplmbglaaTy
import Derived.Test.YtngljhpplmbglaaRingP
import Derived.RegionTactic
import Derived.ChangeAlike
import Derived.Deep.QuietTactic
import Derived.BigQuiet
import Derived.Deep.DeepCutAuto
import Derived.Deep.CutBlock
import Derived.Deep.RegionLaw
namespace Go.Proofs.Ytngljhpplmbglaa
open Go.RowKit
set_option maxRecDepth 4000

/-- A row of strings lies in block g, its slice in block b (if it has one): at most 'most', the elements q. -/
def RingStr (w : World) (g : Nat) (b : Option Nat) (most : Nat) (q : List ByteArray) : Prop :=
  ∃ (A : Option Addr) (c a : Nat) (buf : List ByteArray), Blk w g 93 [.slice A buf.length c, .int .i64 a, .int .i64 q.length, .int .i64 most] ∧ Sl strE w A c buf ∧ A.map Addr.block = b ∧
    buf.length ≤ most ∧ most ≤ 4096 ∧ Gone buf a q

section
variable {w w' : World} {g : Nat} {b : Option Nat} {most : Nat} {q : List ByteArray}
theorem RingStr.touch {S : Nat → Prop} (h : RingStr w g b most q) (ht : Touch S w w') (hg : ¬ S g) (hb : ∀ k, b = some k → ¬ S k) : RingStr w' g b most q := by
  obtain ⟨A, c, a, buf, h1, h2, h3, h4⟩ := h
  refine ⟨A, c, a, buf, ht.blk h1 hg, h2.touch ht (fun ad ha => hb _ ?_), h3, h4⟩
  rw [← h3, ha]; rfl
theorem RingStr.lt (h : RingStr w g b most q) : g < w.heap.size := by obtain ⟨A, c, a, buf, h1, _⟩ := h; exact h1.lt
theorem RingStr.ltb (h : RingStr w g b most q) : ∀ k, b = some k → k < w.heap.size := by
  obtain ⟨A, c, a, buf, h1, h2, rfl, _⟩ := h
  intro k hk
  cases A with
  | none => cases hk
  | some ad => have := h2.lt ad rfl; simp at hk; omega
theorem RingStr.len_le (h : RingStr w g b most q) : q.length ≤ most ∧ most ≤ 4096 := by
  obtain ⟨A, c, a, buf, h1, h2, h3, h4, h5, h6⟩ := h
  exact ⟨Nat.le_trans h6.len h4, h5⟩
theorem RingStr.ne (h : RingStr w g b most q) : b ≠ some g := by
  obtain ⟨A, c, a, buf, h1, h2, rfl, _⟩ := h
  intro e
  cases A with
  | none => cases e
  | some ad => have := h2.blk_ne h1 (by decide) ad rfl; simp at e; exact this e
end

/-- New. -/
theorem ringStr_new (n : Int) (w : World) :
    Calls Try.prog 24 #[.int .i64 n] w fun e w' => e = .returned (.pointer (some ⟨w.heap.size, 0, none⟩)) ∧ RingStr w' w.heap.size none (max 0 (min n 4096)).toNat [] ∧ Fresh w w' := by
  have hmm : ∀ m : Int, 0 ≤ m → m ≤ 4096 → RingStr (w.alloc (.cells #[.slice none 0 0, .int .i64 0, .int .i64 0, .int .i64 m] 93)) w.heap.size none m.toNat [] := fun m h0 h1 => by
    refine ⟨none, 0, 0, [], ?_, Sl.nil _ _, rfl, by simp, by omega, Gone.nil⟩
    have := Blk.new w 93 [.slice none 0 0, .int .i64 0, .int .i64 0, .int .i64 m]
    rw [Int.toNat_of_nonneg h0]
    exact this
  have HM := Lib.hid hmm
  clear hmm
  have hf : ∀ o, Hid (Fresh w (w.alloc o)) := fun o => (Touch.refl _ _).alloc _
  have HF := Lib.hid hf
  clear hf
  obtain ⟨m, hm⟩ : ∃ m, (if 4096 < n then (4096 : Int) else n) = m := ⟨_, rfl⟩
  obtain ⟨m', hm'⟩ : ∃ m', (if 0 < m then m else 0) = m' := ⟨_, rfl⟩
  have hx : Hid (max 0 (min n 4096) = m' ∧ 0 ≤ m' ∧ m' ≤ 4096) := by
    rw [← hm', ← hm]; refine ⟨?_, ?_, ?_⟩ <;> (split <;> (try split) <;> omega)
  go_enter Try.func24, Try.ntmps24
  go_wp2
  go_ret
  exact ⟨rfl, by rw [hx.out.1]; exact HM.out m' hx.out.2.1 hx.out.2.2, HF.out _⟩

/-- place. -/
theorem Strplace_mod (a n L : Nat) : ((a : Int) + (n : Int)) % (L : Int) = (((a + n) % L : Nat) : Int) := by
  rw [Int.natCast_emod]; rfl

theorem ringStr_place (g : Nat) (A : Option Addr) (c a n L : Nat) (w : World) (c0 : w.cell? ⟨g, 0, none⟩ = some (.slice A L c)) (c1 : w.cell? ⟨g, 1, none⟩ = some (.int .i64 a)) (ha : a ≤ 4096) (hn : n ≤ 4096) (hL : 0 < L) (hL2 : L ≤ 4096) (p : Nat) (Hp : Hid ((a + n) % L = p)) :
    Calls Try.prog 48 #[.pointer (some ⟨g, 0, none⟩), .int .i64 n] w fun e w' => e = .returned (.int .i64 p) ∧ ∃ m, w' = w.drewN m := by
  rw [← Hp.out]
  have hL0 : ((L : Int) == 0) = false := by simp; omega
  have hp := Strplace_mod a n L
  go_enter Try.func48, Try.ntmps48
  go_wp2
  go_quiet (fail)
  go_wp2
  go_ret
  exact ⟨rfl, _, rfl⟩

set_option maxHeartbeats 1000000 in
theorem ringStr_all (g : Nat) (A : Option Addr) (c a most : Nat) (buf q : List ByteArray) (w : World)
    (hb : Blk w g 93 [.slice A buf.length c, .int .i64 a, .int .i64 q.length, .int .i64 most]) (hs : Sl strE w A c buf) (hm : buf.length ≤ most ∧ most ≤ 4096) (hg : Gone buf a q) :
    Calls Try.prog 62 #[.pointer (some ⟨g, 0, none⟩)] w fun e w' => ∃ A' c', e = .returned (.slice A' q.length c') ∧ Sl strE w' A' c' q ∧ Fresh w w' ∧ (∀ ad, A' = some ad → w.heap.size ≤ ad.block) ∧ (A' = none → q = []) := by
  have c0 : w.cell? ⟨g, 0, none⟩ = some (.slice A buf.length c) := hb.cell 0
  have c1 : w.cell? ⟨g, 1, none⟩ = some (.int .i64 a) := hb.cell 1
  have c2 : w.cell? ⟨g, 2, none⟩ = some (.int .i64 q.length) := hb.cell 2
  have hql := hg.len
  have ha : a ≤ 4096 := by rcases hg.pos with h | ⟨_, h⟩ <;> omega
  obtain ⟨hm1, hm2⟩ := hm
  have HB := Lib.hid hb
  have HS := Lib.hid hs
  have HG := Lib.hid hg
  clear hb hs hg
  go_enter Try.func62, Try.ntmps62
  go_wp2_with fail
  clear c0 c1 c2
  go_loopw [3, 9] (fun v i wr => ∃ (k : Nat) (A' : Option Addr) (c' : Nat) (L : List ByteArray), k ≤ q.length ∧ i = .int .i64 k ∧ v = .slice A' L.length c' ∧ Hid (L = q.take k) ∧ Sl strE wr A' c' L ∧ Fresh w wr ∧ (∀ ad, A' = some ad → w.heap.size ≤ ad.block)) (fun _ i _ => q.length - (intOf i).toNat)
  case atStart => exact ⟨0, none, 0, [], by omega, rfl, rfl, by simp [Hid], Sl.nil _ _, Touch.refl _ _, fun _ h => by cases h⟩
  case round =>
    obtain ⟨k, A', c', L, hk, rfl, rfl, hL, hs', ht, hA'⟩ := hrel
    by_cases hlt : k < q.length
    · have hbk : Blk wr g 93 [.slice A buf.length c, .int .i64 a, .int .i64 q.length, .int .i64 most] := ht.blk HB.out (fun h => h)
      obtain ⟨p, hp⟩ : ∃ p, Hid ((a + k) % buf.length = p) := ⟨_, rfl⟩
      have hpl : p < buf.length := by rw [← hp.out]; exact Nat.mod_lt _ (by omega)
      obtain ⟨gA, oA, rfl, hgA, hcell⟩ := (HS.out.touch ht (fun _ _ h => h)).str_at p hpl
      have hget : buf.getD p ByteArray.empty = q.getD k ByteArray.empty := by
        rw [← hp.out, List.getD_eq_getElem?_getD, HG.out.get k hlt, ← List.getD_eq_getElem?_getD]
      rw [hget] at hcell
      have c0 : wr.cell? ⟨g, 0, none⟩ = some (.slice (some ⟨gA, oA, none⟩) buf.length c) := hbk.cell 0
      have c1 : wr.cell? ⟨g, 1, none⟩ = some (.int .i64 a) := hbk.cell 1
      have hll : L.length ≤ k := by rw [hL.out]; simp; omega
      have hLs : Hid (q.take (k + 1) = L ++ [q.getD k ByteArray.empty]) := by
        show _ = _
        rw [List.take_succ_eq_append_getElem hlt, hL.out]
        simp [List.getD, List.getElem?_eq_getElem hlt]
      generalize q.getD k ByteArray.empty = x at *
      clear hget hbk
      have HT := Lib.hid ht
      clear ht
      go_upto_region 5 with (fail)
      go_region_law (first
        | (refine stp_str rfl rfl (l := L) (l2 := [x]) rfl rfl (by exact hs'.alloc _) (by exact Sl.rd (Sl.lit strE wr _ rfl _ _ rfl _ rfl (by decide))) (by simp; omega) ?_; intro A2 c2 L2 w2 hL2 hs2 ht2 hA2)
        | (go_simp; go_at_call 48; refine (ringStr_place g _ c a k _ _ (by exact c0) (by exact c1) (by omega) (by omega) (by omega) (by omega) p hp).mono ?_; rintro e w' ⟨rfl, m, rfl⟩))
      all_goals
        have hfr : Hid (Fresh w w2) := by
          refine (((HT.out.drewN _).alloc _).trans ht2 ?_)
          intro j hj e
          cases A' with
          | none => cases e
          | some ad => have := hA' ad rfl; simp at e; omega
        have hAn : ∀ ad, A2 = some ad → w.heap.size ≤ ad.block := by
          intro ad ha
          have hsz := HT.out.size
          subst ha
          rcases hA2 with e | e
          · cases A' with
            | none => cases e
            | some ad0 => have := hA' ad0 rfl; simp at e; omega
          · simp at e; omega
        clear ht2 hA2 hcell c0 c1
        go_wp2
        go_roundw
        case rel => exact ⟨k + 1, A2, c2, L2, by omega, by go_num, rfl, hL2.out.trans hLs.out.symm, hs2, hfr.out, hAn⟩
        case measure => simp [intOf]; omega
    · have hkk : k = q.length := by omega
      subst hkk
      have hlq : Hid (L = q) := by have := hL.out; rw [List.take_length] at this; exact this
      clear hL
      go_wp2
      go_ret
      exact ⟨A', c', by rw [← hlq.out]; rfl, by rw [← hlq.out]; exact hs', ht, hA', fun ha => by have h1 := hs'.1; have h2 := hs'.2.2.1 ha; rw [← hlq.out]; exact List.eq_nil_of_length_eq_zero (by omega)⟩

set_option maxHeartbeats 1000000 in
theorem ringStr_grow (g : Nat) (A : Option Addr) (c a most : Nat) (buf q : List ByteArray) (w : World)
    (hb : Blk w g 93 [.slice A buf.length c, .int .i64 a, .int .i64 q.length, .int .i64 most]) (hs : Sl strE w A c buf) (hm : buf.length ≤ most ∧ most ≤ 4096) (hg : Gone buf a q) (hfull : q.length = buf.length) (hlt : q.length < most) :
    Calls Try.prog 47 #[.pointer (some ⟨g, 0, none⟩)] w fun e w' => e = .returned (.tuple #[]) ∧ ∃ gl c' buf', w.heap.size ≤ gl ∧
      Blk w' g 93 [.slice (some ⟨gl, 0, none⟩) buf'.length c', .int .i64 0, .int .i64 q.length, .int .i64 most] ∧ Sl strE w' (some ⟨gl, 0, none⟩) c' buf' ∧ buf'.length ≤ most ∧ q.length < buf'.length ∧ Gone buf' 0 q ∧ Touch (· = g) w w' := by
  have c0 : w.cell? ⟨g, 0, none⟩ = some (.slice A buf.length c) := hb.cell 0
  have c3 : w.cell? ⟨g, 3, none⟩ = some (.int .i64 most) := hb.cell 3
  obtain ⟨hm1, hm2⟩ := hm
  obtain ⟨x1, hx1⟩ : ∃ x : Int, (if 4 < 2 * (buf.length : Int) then 2 * (buf.length : Int) else 4) = x := ⟨_, rfl⟩
  have hx1' : 0 ≤ x1 ∧ x1 ≤ 8192 ∧ (buf.length : Int) < x1 := by rw [← hx1]; split <;> omega
  obtain ⟨n, hn⟩ : ∃ n : Nat, (if x1 < (most : Int) then x1 else (most : Int)) = (n : Int) := ⟨(if x1 < (most : Int) then x1 else (most : Int)).toNat, by split <;> omega⟩
  have hn' : n ≤ most ∧ q.length < n := by
    have : (n : Int) ≤ most ∧ (q.length : Int) < n := by rw [← hn]; split <;> omega
    omega
  obtain ⟨hn1, hn2⟩ := hn'
  have HB := Lib.hid hb
  have HS := Lib.hid hs
  have HG := Lib.hid hg
  have HF := Lib.hid hfull
  clear hb hs hg hfull
  go_enter Try.func47, Try.ntmps47
  go_wp2
  go_quiet (fail)
  clear hx1 hx1' c0 c3
  go_wp2_with (at_make; refine mk_str rfl rfl n (by first | rfl | rw [← hn]) (by first | rfl | rw [← hn]) (by omega) ?_; intro L w1 hL hLn hs1 ht1)
  clear hn
  have b1 : Blk w1 g 93 [.slice A buf.length c, .int .i64 a, .int .i64 q.length, .int .i64 most] := ht1.blk (HB.out.drewN _) (fun h => h)
  have s1 : Sl strE w1 A c buf := (show Sl strE (w.drewN _) A c buf from HS.out).touch ht1 (fun _ _ h => h)
  refine (ringStr_all g A c a most buf q w1 b1 s1 ⟨hm1, hm2⟩ HG.out).mono ?_
  rintro e w2 ⟨A2, c2, rfl, s2, t2, hA2, hnil⟩
  have hs2 : Sl strE w2 (some ⟨w.heap.size, 0, none⟩) n L := hs1.touch t2 (fun _ _ h => h)
  go_upto_region 3 with (refine cp_str rfl rfl (x := .tmp 18) (y := .tmp 20) rfl rfl hLn rfl hs2 s2.rd ?_; intro L3 w3 hL3 hL3n hs3 ht3)
  have hgs : g < w.heap.size := HB.out.lt
  have b3 : Blk w3 g 93 [.slice A buf.length c, .int .i64 a, .int .i64 q.length, .int .i64 most] := ht3.blk (t2.blk b1 (fun h => h)) (fun e => by simp at e; omega)
  have d0 : w3.cell? ⟨g, 0, none⟩ = some (.slice A buf.length c) := b3.cell 0
  have d1 : w3.cell? ⟨g, 1, none⟩ = some (.int .i64 a) := b3.cell 1
  have f0 := b3.frozen 0
  have f1 := b3.frozen 1
  have HFin : Hid (Blk ((w3.setCell ⟨g, 0, none⟩ (.slice (some ⟨w.heap.size, 0, none⟩) n n)).setCell ⟨g, 1, none⟩ (.int .i64 0)) g 93 [.slice (some ⟨w.heap.size, 0, none⟩) n n, .int .i64 0, .int .i64 q.length, .int .i64 most]) :=
    (b3.set 0 _).set 1 _
  have HSl : Hid (Sl strE ((w3.setCell ⟨g, 0, none⟩ (.slice (some ⟨w.heap.size, 0, none⟩) n n)).setCell ⟨g, 1, none⟩ (.int .i64 0)) (some ⟨w.heap.size, 0, none⟩) n L3) :=
    (hs3.setCell (p := ⟨g, 0, none⟩) (fun ad ha => by injection ha with ha; subst ha; simp; omega) _).setCell (p := ⟨g, 1, none⟩) (fun ad ha => by injection ha with ha; subst ha; simp; omega) _
  have HTo : Hid (Touch (· = g) w ((w3.setCell ⟨g, 0, none⟩ (.slice (some ⟨w.heap.size, 0, none⟩) n n)).setCell ⟨g, 1, none⟩ (.int .i64 0))) := by
    have h0 : Touch (· = g) w w3 := ((((Touch.refl (· = g) w).drewN _).trans ht1 (fun _ _ h => h.elim)).trans t2 (fun _ _ h => h.elim)).trans ht3 (fun k hk e => by simp at e; omega)
    exact (h0.st rfl).st rfl
  have HG3 : Hid (Gone L3 0 q) := by
    have e : L3 = q ++ L.drop q.length := by rw [hL3.out, List.take_of_length_le (by rw [hLn.out]; omega)]
    rw [e]
    exact Gone.whole q _ (by rw [List.length_drop, hLn.out]; omega)
  clear b1 s1 s2 t2 hs2 hs1 ht1 hs3 ht3 b3 hL3 hL hLn
  go_wp2
  go_end0
  exact ⟨rfl, w.heap.size, n, L3, Nat.le_refl _, by rw [hL3n.out]; exact HFin.out, HSl.out, by rw [hL3n.out]; exact hn1, by rw [hL3n.out]; exact hn2, HG3.out, HTo.out⟩
end Go.Proofs.Ytngljhpplmbglaa

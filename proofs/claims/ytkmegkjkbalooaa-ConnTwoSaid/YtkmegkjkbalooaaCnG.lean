/-
  conn: of a call its result.
-/
import Derived.Test.YtkmegkjkbalooaaCnF
import Derived.Test.YtkmegkjkbalooaaSeq
namespace Go.Proofs.Ytkmegkjkbalooaa
open Go.RowKit

/-- A result of a call: its parts lie in new memory. -/
def ResIn (w w' : World) (v : Value) (r : Cn.R) : Prop := ∃ A1 c1 A2 c2, v = .agg #[.slice A1 r.sigs.length c1, .slice A2 r.units.length c2, .bool r.begins, .bool r.ends, .int .u32 r.ms, .int .i64 r.timer] ∧ Sl sigE w' A1 c1 r.sigs ∧ Sl pduE w' A2 c2 r.units ∧ (∀ ad, A1 = some ad → w.heap.size ≤ ad.block) ∧ ∀ ad, A2 = some ad → w.heap.size ≤ ad.block

/-- What a call of a connection leaves. -/
structure ConnPost (w : World) (c : Nat) (y : Cn.SR) (v : Value) (w' : World) : Prop where
  conn : ConnAt w' c y.1
  ok : Cn.Ok y.1
  few : Cn.Few 100 y
  res : ResIn w w' v y.2
  touch : Touch (· = c) w w'

/-- All that is there, but the connection. -/
def Others (w : World) (c k : Nat) : Prop := k < w.heap.size ∧ k ≠ c

theorem ConnPost.back {w0 w w' : World} {c : Nat} {y : Cn.SR} {v : Value} (h : ConnPost w c y v w') (ht : Fresh w0 w) (_hc : c < w0.heap.size) : ConnPost w0 c y v w' := by
  obtain ⟨A1, c1, A2, c2, e, s1, s2, b1, b2⟩ := h.res
  exact ⟨h.conn, h.ok, h.few, ⟨A1, c1, A2, c2, e, s1, s2, fun ad e => Nat.le_trans ht.size (b1 ad e), fun ad e => Nat.le_trans ht.size (b2 ad e)⟩, (ht.mono fun _ _ e => e.elim).trans h.touch (fun _ _ e => e)⟩

set_option maxHeartbeats 1000000 in
theorem done_any {w : World} {c : Nat} {s : Cn.S} (h : ConnAt w c s) (ho : Cn.Ok s) (k : Nat) (cap : Array Value) {y : Cn.SR} {m : Nat} (hm : m ≤ 100) (eg : ∀ args w, (callFunc k args).run Try.prog w = .ok (.enter k args) w)
    (hk : ∀ W a w1, Fresh w W → Fresh W w1 → InAct (Others W c) 0 w1 a c (s, Cn.r0) → Calls Try.prog k (#[.pointer (some ⟨a, 0, none⟩)] ++ cap) w1 fun e w' => e = .returned (.tuple #[]) ∧ InAct (Others W c) m w' a c y ∧ Touch (OfAct (Others W c)) w1 w') :
    Calls Try.prog 20 #[.pointer (some ⟨c, 0, none⟩), .func (.func k) #[] cap] w fun e w' => ∃ v, e = .returned v ∧ ConnPost w c y v w' := by
  have HK := Lib.hid hk
  have HC := Lib.hid h
  have HO := Lib.hid ho
  clear h hk ho
  go_enter Try.func20, Try.ntmps20
  go_wp2_with fail
  have HF1 : Hid (Fresh w (w.alloc (.cells #[.slice none 0 0, .slice none 0 0, .bool false, .bool false, .int .u32 0, .int .i64 0] 41))) := (Touch.refl _ w).alloc _
  have HB1 : Hid (Blk (w.alloc (.cells #[.slice none 0 0, .slice none 0 0, .bool false, .bool false, .int .u32 0, .int .i64 0] 41)) w.heap.size 41 [.slice none 0 0, .slice none 0 0, .bool false, .bool false, .int .u32 0, .int .i64 0]) := Blk.new _ _ _
  have hsz : (w.alloc (.cells #[.slice none 0 0, .slice none 0 0, .bool false, .bool false, .int .u32 0, .int .i64 0] 41)).heap.size = w.heap.size + 1 := by simp
  have HLT : Hid (c < w.heap.size) := Blk.lt HC.out
  generalize (w.alloc (.cells #[.slice none 0 0, .slice none 0 0, .bool false, .bool false, .int .u32 0, .int .i64 0] 41)) = W at *
  have HSZ := Lib.hid hsz
  clear hsz
  have HB2 : Hid (Blk (W.alloc (.cells #[.pointer (some ⟨c, 0, none⟩), .slice none 0 0, .slice none 0 0, .bool false, .bool false, .int .u32 0, .int .i64 0] 81)) (w.heap.size + 1) 81 [.pointer (some ⟨c, 0, none⟩), .slice none 0 0, .slice none 0 0, .bool false, .bool false, .int .u32 0, .int .i64 0]) := by rw [← HSZ.out]; exact Blk.new _ _ _
  have HF2 : Hid (Fresh W (W.alloc (.cells #[.pointer (some ⟨c, 0, none⟩), .slice none 0 0, .slice none 0 0, .bool false, .bool false, .int .u32 0, .int .i64 0] 81))) := (Touch.refl _ W).alloc _
  generalize (W.alloc (.cells #[.pointer (some ⟨c, 0, none⟩), .slice none 0 0, .slice none 0 0, .bool false, .bool false, .int .u32 0, .int .i64 0] 81)) = w1 at *
  have HA : Hid (InAct (Others W c) 0 w1 (w.heap.size + 1) c (s, Cn.r0)) := by
    refine ⟨none, 0, none, 0, fun k e => Nat.lt_of_lt_of_le e.1 HF2.out.size, fun e => e.2 rfl, fun e => ?_, HB2.out, HF2.out.blk (HF1.out.blk HC.out (fun e => e)) (fun e => e), Sl.nil _ _, Sl.nil _ _, (fun ad e => nomatch e), (fun ad e => nomatch e), ⟨Nat.le_refl _, Nat.le_refl _⟩, HO.out⟩
    have := e.1
    have := HSZ.out
    omega
  refine (HK.out W _ w1 HF1.out HF2.out HA.out).mono ?_
  rintro e w2 ⟨rfl, ⟨A1, c1, A2, c2, h2⟩, t2⟩
  have H2 := Lib.hid h2
  have T2 := Lib.hid t2
  have k1 : w2.cell? ⟨w.heap.size + 1, 1, none⟩ = some (.slice A1 y.2.sigs.length c1) := h2.blk.cell 1
  have k2 : w2.cell? ⟨w.heap.size + 1, 2, none⟩ = some (.slice A2 y.2.units.length c2) := h2.blk.cell 2
  have k3 : w2.cell? ⟨w.heap.size + 1, 3, none⟩ = some (.bool y.2.begins) := h2.blk.cell 3
  have k4 : w2.cell? ⟨w.heap.size + 1, 4, none⟩ = some (.bool y.2.ends) := h2.blk.cell 4
  have k5 : w2.cell? ⟨w.heap.size + 1, 5, none⟩ = some (.int .u32 y.2.ms) := h2.blk.cell 5
  have k6 : w2.cell? ⟨w.heap.size + 1, 6, none⟩ = some (.int .i64 y.2.timer) := h2.blk.cell 6
  have HR : Hid (Blk w2 w.heap.size 41 [.slice none 0 0, .slice none 0 0, .bool false, .bool false, .int .u32 0, .int .i64 0]) := (HF2.out.blk HB1.out (fun e => e)) |> fun b => t2.keptB b ⟨by have := HSZ.out; omega, by have := HLT.out; omega⟩
  have r0 := HR.out.cell 0
  have r1 := HR.out.cell 1
  have r2 := HR.out.cell 2
  have r3 := HR.out.cell 3
  have r4 := HR.out.cell 4
  have r5 := HR.out.cell 5
  have f0 := HR.out.frozen 0
  have f1 := HR.out.frozen 1
  have f2 := HR.out.frozen 2
  have f3 := HR.out.frozen 3
  have f4 := HR.out.frozen 4
  have f5 := HR.out.frozen 5
  simp only [List.getElem?_cons_zero, List.getElem?_cons_succ] at r0 r1 r2 r3 r4 r5
  clear h2 t2
  generalize hg : w.heap.size = g at *
  have HG := Lib.hid hg
  clear hg
  go_wp2
  have HB6 : Blk ((((((w2.setCell ⟨g, 0, none⟩ (.slice A1 y.2.sigs.length c1)).setCell ⟨g, 1, none⟩ (.slice A2 y.2.units.length c2)).setCell ⟨g, 2, none⟩ (.bool y.2.begins)).setCell ⟨g, 3, none⟩ (.bool y.2.ends)).setCell ⟨g, 4, none⟩ (.int .u32 y.2.ms)).setCell ⟨g, 5, none⟩ (.int .i64 y.2.timer)) g 41 [.slice A1 y.2.sigs.length c1, .slice A2 y.2.units.length c2, .bool y.2.begins, .bool y.2.ends, .int .u32 y.2.ms, .int .i64 y.2.timer] := (((((HR.out.set 0 _).set 1 _).set 2 _).set 3 _).set 4 _).set 5 _
  have HT6 : Hid (Touch (· = g) w2 ((((((w2.setCell ⟨g, 0, none⟩ (.slice A1 y.2.sigs.length c1)).setCell ⟨g, 1, none⟩ (.slice A2 y.2.units.length c2)).setCell ⟨g, 2, none⟩ (.bool y.2.begins)).setCell ⟨g, 3, none⟩ (.bool y.2.ends)).setCell ⟨g, 4, none⟩ (.int .u32 y.2.ms)).setCell ⟨g, 5, none⟩ (.int .i64 y.2.timer))) := ((((((Touch.refl _ _).st (by exact rfl)).st (by exact rfl)).st (by exact rfl)).st (by exact rfl)).st (by exact rfl)).st (by exact rfl)
  generalize ((((((w2.setCell ⟨g, 0, none⟩ (.slice A1 y.2.sigs.length c1)).setCell ⟨g, 1, none⟩ (.slice A2 y.2.units.length c2)).setCell ⟨g, 2, none⟩ (.bool y.2.begins)).setCell ⟨g, 3, none⟩ (.bool y.2.ends)).setCell ⟨g, 4, none⟩ (.int .u32 y.2.ms)).setCell ⟨g, 5, none⟩ (.int .i64 y.2.timer)) = w6 at *
  have z0 := HB6.cell 0
  have z1 := HB6.cell 1
  have z2 := HB6.cell 2
  have z3 := HB6.cell 3
  have z4 := HB6.cell 4
  have z5 := HB6.cell 5
  simp only [List.getElem?_cons_zero, List.getElem?_cons_succ] at z0 z1 z2 z3 z4 z5
  clear HB6
  have HKG : Others W c g := ⟨by have := HSZ.out; omega, by have := HLT.out; omega⟩
  have H6 := H2.out.touch HT6.out (by intro e; have e : g + 1 = g := e; omega) (by intro e; have e : c = g := e; have := HLT.out; omega) (fun ad e e' => H2.out.b1 ad e (by have e' : ad.block = g := e'; rw [e']; exact HKG)) (fun ad e e' => H2.out.b2 ad e (by have e' : ad.block = g := e'; rw [e']; exact HKG))
  have hsz2 := HSZ.out
  have hg := HG.out
  have hne : ∀ ad : Addr, ¬ Others W c ad.block → ad.block ≠ c → w.heap.size ≤ ad.block := fun ad h1 h2 => by
    rcases Nat.lt_or_ge ad.block W.heap.size with hl | hl
    · exact absurd ⟨hl, h2⟩ h1
    · omega
  have HP : ConnPost w c y (.agg #[.slice A1 y.2.sigs.length c1, .slice A2 y.2.units.length c2, .bool y.2.begins, .bool y.2.ends, .int .u32 y.2.ms, .int .i64 y.2.timer]) w6 := by
    refine ⟨H6.conn, H6.ok, ⟨Nat.le_trans H6.few.1 hm, Nat.le_trans H6.few.2 hm⟩, ⟨A1, c1, A2, c2, rfl, H6.sigs, H6.units, fun ad e => hne ad (H6.b1 ad e) (H6.n1 ad e).2, fun ad e => hne ad (H6.b2 ad e) (H6.n2 ad e).2⟩, ?_⟩
    have T26 : Touch (fun k => OfAct (Others W c) k ∨ k = g) w1 w6 := (T2.out.mono fun _ _ e => Or.inl e).trans HT6.out (fun _ _ e => Or.inr e)
    refine ((HF1.out.trans HF2.out (fun _ _ e => e)).mono (fun _ _ e => e.elim)).trans T26 (fun k hk e => ?_)
    rcases e with e | e
    · by_cases hkc : k = c
      · exact hkc
      · exact absurd ⟨by omega, hkc⟩ e
    · omega
  exact bodyPost_ret (v := _) (by simp [results, Try.results20, go_sem, z0, z1, z2, z3, z4, z5]) rfl ⟨_, rfl, HP⟩

/-- Vars: the cells of a connection's numbers. -/
theorem vars_any {w : World} {c : Nat} {s : Cn.S} (h : ConnAt w c s) :
    Calls Try.prog 13 #[.pointer (some ⟨c, 0, none⟩)] w fun e w' => e = .returned (.agg #[.int .i64 s.state, .int .i64 s.sq, .int .i64 s.peer, .int .i64 s.cc, .int .u32 s.ms]) ∧ Fresh w w' := by
  have s2 : w.cell? ⟨c, 2, none⟩ = some (.int .i64 s.state) := Blk.cell h 2
  have s3 : w.cell? ⟨c, 3, none⟩ = some (.int .i64 s.sq) := Blk.cell h 3
  have s4 : w.cell? ⟨c, 4, none⟩ = some (.int .i64 s.peer) := Blk.cell h 4
  have s5 : w.cell? ⟨c, 5, none⟩ = some (.int .i64 s.cc) := Blk.cell h 5
  have s6 : w.cell? ⟨c, 6, none⟩ = some (.int .u32 s.ms) := Blk.cell h 6
  have hl : c < w.heap.size := Blk.lt h
  have s2' : ∀ o, (w.alloc o).cell? ⟨c, 2, none⟩ = some (.int .i64 s.state) := fun o => Blk.cell (Blk.alloc h o) 2
  have s3' : ∀ o, (w.alloc o).cell? ⟨c, 3, none⟩ = some (.int .i64 s.sq) := fun o => Blk.cell (Blk.alloc h o) 3
  have s4' : ∀ o, (w.alloc o).cell? ⟨c, 4, none⟩ = some (.int .i64 s.peer) := fun o => Blk.cell (Blk.alloc h o) 4
  have s5' : ∀ o, (w.alloc o).cell? ⟨c, 5, none⟩ = some (.int .i64 s.cc) := fun o => Blk.cell (Blk.alloc h o) 5
  have s6' : ∀ o, (w.alloc o).cell? ⟨c, 6, none⟩ = some (.int .u32 s.ms) := fun o => Blk.cell (Blk.alloc h o) 6
  clear h hl
  go_enter Try.func13, Try.ntmps13
  go_wp2
  exact bodyPost_ret (v := _) (by simp [results, Try.results13, go_sem]) rfl ⟨rfl, (Touch.refl _ _).alloc _⟩

theorem clone_any {w : World} {c : Nat} {s : Cn.S} (h : ConnAt w c s) :
    Calls Try.prog 58 #[.pointer (some ⟨c, 0, none⟩)] w fun e w' => ∃ d, e = .returned (.pointer (some ⟨d, 0, none⟩)) ∧ w.heap.size ≤ d ∧ ConnAt w' d s ∧ Fresh w w' := by
  have hc : ∀ i, w.cell? ⟨c, i, none⟩ = (connCells s)[i]? := fun i => Blk.cell h i
  have s0 : ∀ o, (w.alloc o).cell? ⟨c, 0, none⟩ = some (.int .i64 s.most) := fun o => Blk.cell (Blk.alloc h o) 0
  have s1 : ∀ o, (w.alloc o).cell? ⟨c, 1, none⟩ = some (.int .u32 s.credit) := fun o => Blk.cell (Blk.alloc h o) 1
  have s2 : ∀ o, (w.alloc o).cell? ⟨c, 2, none⟩ = some (.int .i64 s.state) := fun o => Blk.cell (Blk.alloc h o) 2
  have s3 : ∀ o, (w.alloc o).cell? ⟨c, 3, none⟩ = some (.int .i64 s.sq) := fun o => Blk.cell (Blk.alloc h o) 3
  have s4 : ∀ o, (w.alloc o).cell? ⟨c, 4, none⟩ = some (.int .i64 s.peer) := fun o => Blk.cell (Blk.alloc h o) 4
  have s5 : ∀ o, (w.alloc o).cell? ⟨c, 5, none⟩ = some (.int .i64 s.cc) := fun o => Blk.cell (Blk.alloc h o) 5
  have s6 : ∀ o, (w.alloc o).cell? ⟨c, 6, none⟩ = some (.int .u32 s.ms) := fun o => Blk.cell (Blk.alloc h o) 6
  have s7 : ∀ o, (w.alloc o).cell? ⟨c, 7, none⟩ = some (.string s.data) := fun o => Blk.cell (Blk.alloc h o) 7
  have t0 : w.cell? ⟨c, 0, none⟩ = some (.int .i64 s.most) := Blk.cell h 0
  have t1 : w.cell? ⟨c, 1, none⟩ = some (.int .u32 s.credit) := Blk.cell h 1
  have t2 : w.cell? ⟨c, 2, none⟩ = some (.int .i64 s.state) := Blk.cell h 2
  have t3 : w.cell? ⟨c, 3, none⟩ = some (.int .i64 s.sq) := Blk.cell h 3
  have t4 : w.cell? ⟨c, 4, none⟩ = some (.int .i64 s.peer) := Blk.cell h 4
  have t5 : w.cell? ⟨c, 5, none⟩ = some (.int .i64 s.cc) := Blk.cell h 5
  have t6 : w.cell? ⟨c, 6, none⟩ = some (.int .u32 s.ms) := Blk.cell h 6
  have t7 : w.cell? ⟨c, 7, none⟩ = some (.string s.data) := Blk.cell h 7
  clear h hc
  go_enter Try.func58, Try.ntmps58
  go_wp2
  go_ret
  exact ⟨w.heap.size, rfl, Nat.le_refl _, Blk.new w _ (connCells s), (Touch.refl _ _).alloc _⟩

set_option maxHeartbeats 1000000 in
theorem cnew_any (most credit : Int) (w : World) :
    Calls Try.prog 8 #[.agg #[.int .i64 most, .int .u32 credit]] w fun e w' => ∃ c, e = .returned (.pointer (some ⟨c, 0, none⟩)) ∧ w.heap.size ≤ c ∧ ConnAt w' c (Cn.new most credit) ∧ Cn.Ok (Cn.new most credit) ∧ Fresh w w' := by
  obtain ⟨m, hm⟩ : ∃ m, (if 16 < most then (16 : Int) else most) = m := ⟨_, rfl⟩
  obtain ⟨M, hM⟩ : ∃ M, (if 1 < m then m else 1) = M := ⟨_, rfl⟩
  have HL := Lib.hid low_any
  have HM : Hid (max 1 (min most 16) = M) := by unfold Hid; rw [← hM, ← hm]; (split <;> (try split) <;> omega)
  have HB : Hid (1 ≤ M ∧ M ≤ 16) := by have := HM.out; unfold Hid; omega
  go_enter Try.func8, Try.ntmps8
  go_wp2
  go_region_law (go_simp; go_at_call 19; refine (HL.out credit _).mono ?_; rintro e w1 ⟨rfl, rfl⟩)
  all_goals
    clear hm hM
    go_wp2
    go_ret
    have hN : Cn.new most credit = ⟨M, credit % 16777216, 1, 0, -1, 0, credit % 16777216, Cn.no⟩ := by unfold Cn.new; rw [HM.out]
    have hb := Blk.new (w.alloc (.cells #[.int .i64 M, .int .u32 (credit % 16777216)] 30)) 68 (connCells ⟨M, credit % 16777216, 1, 0, -1, 0, credit % 16777216, Cn.no⟩)
    rw [show (w.alloc (.cells #[.int .i64 M, .int .u32 (credit % 16777216)] 30)).heap.size = w.heap.size + 1 by simp] at hb
    refine ⟨_, rfl, Nat.le_succ _, ?_, ?_, (((Touch.refl _ _).alloc _).alloc _).drew⟩
    · rw [hN]; exact hb
    · rw [hN]; exact ⟨Int.le_refl _, by show (0 : Int) ≤ 255; decide, Int.le_refl _, by show (0 : Int) ≤ 16; decide, HB.out.1, HB.out.2⟩
end Go.Proofs.Ytkmegkjkbalooaa

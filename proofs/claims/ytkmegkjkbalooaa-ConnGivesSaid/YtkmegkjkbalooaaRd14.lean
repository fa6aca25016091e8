/-
  polliwogref14: tell, report, out, to, ready, begin.
-/
import Derived.Test.YtkmegkjkbalooaaRc
import Derived.Test.YtkmegkjkbalooaaCnC
import Derived.RegionTactic
import Derived.ChangeAlike
import Derived.Deep.RegionLaw
import Derived.Deep.QuietTactic
import Derived.BigQuiet
import Derived.StillTailTactics
import Derived.Deep.DeepCutAuto
import Derived.Deep.CutBlock
namespace Go.Proofs.Ytkmegkjkbalooaa
open Go.RowKit

set_option maxHeartbeats 4000000 in
set_option maxRecDepth 100000 in
theorem rtell_any {K : Nat → Prop} {n : Nat} {w : World} {P : RP} {r : Cn.R} (h : RIn K n w P r) (hn : n ≤ 90) (kind : Int) (self : Bool) (d : ByteArray) :
    Calls Try.prog 72 #[rrV P r, .int .i64 kind, .bool self, .string d] w (RPost1 K (n + 1) { r with sigs := r.sigs ++ [Cn.sig kind self d] } w) := by
  unfold rrV
  have hl := h.l1
  obtain ⟨w1, q0⟩ : ∃ x : World, x = ((w.alloc (.cells #[.slice P.A1 r.sigs.length P.c1, .slice P.A2 r.units.length P.c2, .bool r.begins, .bool r.ends, .int .i64 r.ms, .int .i64 r.timer] 90)).alloc (.cells #[.slice none 0 0, .slice none 0 0, .bool false, .bool false, .int .i64 0, .int .i64 0] 90)) := ⟨_, rfl⟩
  have q_w1 := Lib.hid q0
  clear q0
  have HF : Hid (Fresh w w1) := by rw [q_w1.out]; exact ((Touch.refl _ w).alloc _).alloc _
  have HBR1 : Hid (Blk w1 (w.heap.size) 90 [.slice P.A1 r.sigs.length P.c1, .slice P.A2 r.units.length P.c2, .bool r.begins, .bool r.ends, .int .i64 r.ms, .int .i64 r.timer]) := by
    rw [q_w1.out]
    have := (Blk.new w 90 [.slice P.A1 r.sigs.length P.c1, .slice P.A2 r.units.length P.c2, .bool r.begins, .bool r.ends, .int .i64 r.ms, .int .i64 r.timer]).alloc (.cells #[.slice none 0 0, .slice none 0 0, .bool false, .bool false, .int .i64 0, .int .i64 0] 90)
    exact this
  have HGR : Hid (Kept K w w1 (w.heap.size)) := by rw [q_w1.out]; exact .inr ⟨by omega, by simp; try omega⟩
  have HBO1 : Hid (Blk w1 (w.heap.size + 1) 90 [.slice none 0 0, .slice none 0 0, .bool false, .bool false, .int .i64 0, .int .i64 0]) := by
    rw [q_w1.out]
    have := Blk.new (w.alloc (.cells #[.slice P.A1 r.sigs.length P.c1, .slice P.A2 r.units.length P.c2, .bool r.begins, .bool r.ends, .int .i64 r.ms, .int .i64 r.timer] 90)) 90 [.slice none 0 0, .slice none 0 0, .bool false, .bool false, .int .i64 0, .int .i64 0]
    rwa [show (w.alloc (.cells #[.slice P.A1 r.sigs.length P.c1, .slice P.A2 r.units.length P.c2, .bool r.begins, .bool r.ends, .int .i64 r.ms, .int .i64 r.timer] 90)).heap.size = w.heap.size + 1 by simp] at this
  have HGO : Hid (Kept K w w1 (w.heap.size + 1)) := by rw [q_w1.out]; exact .inr ⟨by omega, by simp; try omega⟩
  have HL : Hid (∀ k, K k → Kept K w w1 k) := by rw [q_w1.out]; exact fun k e => .inl e
  have HLIM : Hid (∀ k, K k → k < w.heap.size) := h.lim
  have HR1 := Lib.hid (h.keep HF.out)
  have HT1 : Hid (Touch (OfAct K) w w1) := HF.out.mono (fun _ _ e => e.elim)
  clear h HF
  go_enter Try.func72, Try.ntmps72
  go_upto_region 1 with (fail)
  rw [← q_w1.out]
  clear q_w1
  generalize Kept K w w1 = K1 at *
  generalize w.heap.size = g at *
  have xR0 : w1.cell? ⟨g, 0, none⟩ = some (.slice P.A1 r.sigs.length P.c1) := HBR1.out.cell 0
  have fR0 := HBR1.out.frozen 0
  have xR1 : w1.cell? ⟨g, 1, none⟩ = some (.slice P.A2 r.units.length P.c2) := HBR1.out.cell 1
  have fR1 := HBR1.out.frozen 1
  have xR2 : w1.cell? ⟨g, 2, none⟩ = some (.bool r.begins) := HBR1.out.cell 2
  have fR2 := HBR1.out.frozen 2
  have xR3 : w1.cell? ⟨g, 3, none⟩ = some (.bool r.ends) := HBR1.out.cell 3
  have fR3 := HBR1.out.frozen 3
  have xR4 : w1.cell? ⟨g, 4, none⟩ = some (.int .i64 r.ms) := HBR1.out.cell 4
  have fR4 := HBR1.out.frozen 4
  have xR5 : w1.cell? ⟨g, 5, none⟩ = some (.int .i64 r.timer) := HBR1.out.cell 5
  have fR5 := HBR1.out.frozen 5
  have xO0 : w1.cell? ⟨g + 1, 0, none⟩ = some (.slice none 0 0) := HBO1.out.cell 0
  have fO0 := HBO1.out.frozen 0
  have xO1 : w1.cell? ⟨g + 1, 1, none⟩ = some (.slice none 0 0) := HBO1.out.cell 1
  have fO1 := HBO1.out.frozen 1
  have xO2 : w1.cell? ⟨g + 1, 2, none⟩ = some (.bool false) := HBO1.out.cell 2
  have fO2 := HBO1.out.frozen 2
  have xO3 : w1.cell? ⟨g + 1, 3, none⟩ = some (.bool false) := HBO1.out.cell 3
  have fO3 := HBO1.out.frozen 3
  have xO4 : w1.cell? ⟨g + 1, 4, none⟩ = some (.int .i64 0) := HBO1.out.cell 4
  have fO4 := HBO1.out.frozen 4
  have xO5 : w1.cell? ⟨g + 1, 5, none⟩ = some (.int .i64 0) := HBO1.out.cell 5
  have fO5 := HBO1.out.frozen 5
  go_wp2_with (first
    | (at_builtin
       refine app_rsig rfl rfl (l := r.sigs) (l2 := [Cn.sig kind self d]) rfl rfl (HR1.out.sigs.alloc _) (Sl.rd (Sl.lit rsigE w1 _ rfl _ [Cn.sig kind self d] rfl _ rfl (by decide))) (by simp; omega) ?_
       intro A3 c3 L3 w2 hL3 hs2 ht2 hA2
       obtain ⟨hr2, t2⟩ := HR1.out.told ((Touch.refl _ w1).alloc _) hL3.out hs2 ht2 hA2
       have HBR2 := Lib.hid (t2.keptB HBR1.out HGR.out)
       have HBO2 := Lib.hid (t2.keptB HBO1.out HGO.out)
       have HR2 := Lib.hid hr2
       have HT2 : Hid (Touch (OfAct K) w w2) := HT1.out.trans (t2.loose HL.out) (fun _ _ e => e)
       clear hr2 t2 hs2 ht2 hA2 xR0 fR0 xR1 fR1 xR2 fR2 xR3 fR3 xR4 fR4 xR5 fR5 xO0 fO0 xO1 fO1 xO2 fO2 xO3 fO3 xO4 fO4 xO5 fO5
       have xR0 : w2.cell? ⟨g, 0, none⟩ = some (.slice P.A1 r.sigs.length P.c1) := HBR2.out.cell 0
       have fR0 := HBR2.out.frozen 0
       have xR1 : w2.cell? ⟨g, 1, none⟩ = some (.slice P.A2 r.units.length P.c2) := HBR2.out.cell 1
       have fR1 := HBR2.out.frozen 1
       have xR2 : w2.cell? ⟨g, 2, none⟩ = some (.bool r.begins) := HBR2.out.cell 2
       have fR2 := HBR2.out.frozen 2
       have xR3 : w2.cell? ⟨g, 3, none⟩ = some (.bool r.ends) := HBR2.out.cell 3
       have fR3 := HBR2.out.frozen 3
       have xR4 : w2.cell? ⟨g, 4, none⟩ = some (.int .i64 r.ms) := HBR2.out.cell 4
       have fR4 := HBR2.out.frozen 4
       have xR5 : w2.cell? ⟨g, 5, none⟩ = some (.int .i64 r.timer) := HBR2.out.cell 5
       have fR5 := HBR2.out.frozen 5
       have xO0 : w2.cell? ⟨g + 1, 0, none⟩ = some (.slice none 0 0) := HBO2.out.cell 0
       have fO0 := HBO2.out.frozen 0
       have xO1 : w2.cell? ⟨g + 1, 1, none⟩ = some (.slice none 0 0) := HBO2.out.cell 1
       have fO1 := HBO2.out.frozen 1
       have xO2 : w2.cell? ⟨g + 1, 2, none⟩ = some (.bool false) := HBO2.out.cell 2
       have fO2 := HBO2.out.frozen 2
       have xO3 : w2.cell? ⟨g + 1, 3, none⟩ = some (.bool false) := HBO2.out.cell 3
       have fO3 := HBO2.out.frozen 3
       have xO4 : w2.cell? ⟨g + 1, 4, none⟩ = some (.int .i64 0) := HBO2.out.cell 4
       have fO4 := HBO2.out.frozen 4
       have xO5 : w2.cell? ⟨g + 1, 5, none⟩ = some (.int .i64 0) := HBO2.out.cell 5
       have fO5 := HBO2.out.frozen 5))
  have htq3_1 : Touch (· = g) w2 (w2.setCell ⟨g, 0, none⟩ (.slice A3 L3.length c3)) := ((Touch.refl _ w2).st (S := (· = g)) (u := .slice A3 L3.length c3) (by exact rfl))
  have hbq3_1 : Blk (w2.setCell ⟨g, 0, none⟩ (.slice A3 L3.length c3)) (g) 90 [.slice A3 L3.length c3, .slice P.A2 r.units.length P.c2, .bool r.begins, .bool r.ends, .int .i64 r.ms, .int .i64 r.timer] := (HBR2.out.set 0 (.slice A3 L3.length c3))
  have hoq3_1O := htq3_1.blk HBO2.out (by intro e; have e : g + 1 = g := e; omega)
  have hrq3_1 := HR2.out.touch htq3_1 (fun k e => by have e : k = g := e; rw [e]; exact HGR.out)
  have hTq3_1 : Touch (OfAct K) w (w2.setCell ⟨g, 0, none⟩ (.slice A3 L3.length c3)) := HT2.out.trans htq3_1 (fun k _ e => by have e : k = g := e; intro hk; have := HLIM.out k hk; omega)
  obtain ⟨w3, q0⟩ : ∃ x : World, x = (((((((w2.setCell ⟨g, 0, none⟩ (.slice A3 L3.length c3)).setCell ⟨g + 1, 0, none⟩ (.slice A3 L3.length c3)).setCell ⟨g + 1, 1, none⟩ (.slice P.A2 r.units.length P.c2)).setCell ⟨g + 1, 2, none⟩ (.bool r.begins)).setCell ⟨g + 1, 3, none⟩ (.bool r.ends)).setCell ⟨g + 1, 4, none⟩ (.int .i64 r.ms)).setCell ⟨g + 1, 5, none⟩ (.int .i64 r.timer)) := ⟨_, rfl⟩
  have q_w3 := Lib.hid q0
  clear q0
  have htq3_2 : Touch (· = g + 1) (w2.setCell ⟨g, 0, none⟩ (.slice A3 L3.length c3)) w3 := by rw [q_w3.out]; exact (((((((Touch.refl _ (w2.setCell ⟨g, 0, none⟩ (.slice A3 L3.length c3))).st (S := (· = g + 1)) (u := .slice A3 L3.length c3) (by exact rfl)).st (S := (· = g + 1)) (u := .slice P.A2 r.units.length P.c2) (by exact rfl)).st (S := (· = g + 1)) (u := .bool r.begins) (by exact rfl)).st (S := (· = g + 1)) (u := .bool r.ends) (by exact rfl)).st (S := (· = g + 1)) (u := .int .i64 r.ms) (by exact rfl)).st (S := (· = g + 1)) (u := .int .i64 r.timer) (by exact rfl))
  have hbq3_2 : Blk w3 (g + 1) 90 [.slice A3 L3.length c3, .slice P.A2 r.units.length P.c2, .bool r.begins, .bool r.ends, .int .i64 r.ms, .int .i64 r.timer] := by rw [q_w3.out]; exact ((((((hoq3_1O.set 0 (.slice A3 L3.length c3)).set 1 (.slice P.A2 r.units.length P.c2)).set 2 (.bool r.begins)).set 3 (.bool r.ends)).set 4 (.int .i64 r.ms)).set 5 (.int .i64 r.timer))
  have hoq3_2R := htq3_2.blk hbq3_1 (by intro e; have e : g = g + 1 := e; omega)
  have hrq3_2 := hrq3_1.touch htq3_2 (fun k e => by have e : k = g + 1 := e; rw [e]; exact HGO.out)
  have hTq3_2 : Touch (OfAct K) w w3 := hTq3_1.trans htq3_2 (fun k _ e => by have e : k = g + 1 := e; intro hk; have := HLIM.out k hk; omega)
  clear xR0 fR0 xR1 fR1 xR2 fR2 xR3 fR3 xR4 fR4 xR5 fR5 xO0 fO0 xO1 fO1 xO2 fO2 xO3 fO3 xO4 fO4 xO5 fO5
  have HBR3 : Hid (Blk w3 (g) 90 [.slice A3 L3.length c3, .slice P.A2 r.units.length P.c2, .bool r.begins, .bool r.ends, .int .i64 r.ms, .int .i64 r.timer]) := hoq3_2R
  have HBO3 : Hid (Blk w3 (g + 1) 90 [.slice A3 L3.length c3, .slice P.A2 r.units.length P.c2, .bool r.begins, .bool r.ends, .int .i64 r.ms, .int .i64 r.timer]) := hbq3_2
  have HR3 := Lib.hid hrq3_2
  have HT3 : Hid (Touch (OfAct K) w w3) := hTq3_2
  clear HBR2 HBO2 HR2 HT2 htq3_1 hbq3_1 hrq3_1 hTq3_1 hoq3_1O htq3_2 hbq3_2 hrq3_2 hTq3_2 hoq3_2R
  rw [← q_w3.out]
  clear q_w3
  have HX : Hid (∀ e, e = .returned (.agg #[.slice A3 L3.length c3, .slice P.A2 r.units.length P.c2, .bool r.begins, .bool r.ends, .int .i64 r.ms, .int .i64 r.timer]) → RPost1 K (n + 1) ({ r with sigs := r.sigs ++ [Cn.sig kind self d] }) w e w3) := fun e he => ⟨{ P with A1 := A3, c1 := c3 }, he.trans (by first | rfl | (rw [hL3.out]; rfl) | (rw [← hL3.out])), by (refine ((HR3.out.less HL.out).wide (by omega)).eq ?_ ?_ <;> first | rfl | (rw [hL3.out]; rfl) | (rw [← hL3.out])), HT3.out⟩
  have zO0 : w3.cell? ⟨g + 1, 0, none⟩ = some (.slice A3 L3.length c3) := HBO3.out.cell 0
  have zO1 : w3.cell? ⟨g + 1, 1, none⟩ = some (.slice P.A2 r.units.length P.c2) := HBO3.out.cell 1
  have zO2 : w3.cell? ⟨g + 1, 2, none⟩ = some (.bool r.begins) := HBO3.out.cell 2
  have zO3 : w3.cell? ⟨g + 1, 3, none⟩ = some (.bool r.ends) := HBO3.out.cell 3
  have zO4 : w3.cell? ⟨g + 1, 4, none⟩ = some (.int .i64 r.ms) := HBO3.out.cell 4
  have zO5 : w3.cell? ⟨g + 1, 5, none⟩ = some (.int .i64 r.timer) := HBO3.out.cell 5
  go_wp2
  exact bodyPost_ret (v := _) (by simp [results, Try.results72, go_sem, zO0, zO1, zO2, zO3, zO4, zO5]) rfl (HX.out _ rfl)

set_option maxHeartbeats 4000000 in
set_option maxRecDepth 100000 in
theorem rreport_any {K : Nat → Prop} {n : Nat} {w : World} {P : RP} {r : Cn.R} (h : RIn K n w P r) (hn : n ≤ 90) (code : Int) :
    Calls Try.prog 71 #[rrV P r, .int .u8 code] w (RPost1 K (n + 1) { r with sigs := r.sigs ++ [⟨12, ByteArray.empty, false, code, 0⟩] } w) := by
  unfold rrV
  have hl := h.l1
  obtain ⟨w1, q0⟩ : ∃ x : World, x = ((w.alloc (.cells #[.slice P.A1 r.sigs.length P.c1, .slice P.A2 r.units.length P.c2, .bool r.begins, .bool r.ends, .int .i64 r.ms, .int .i64 r.timer] 90)).alloc (.cells #[.slice none 0 0, .slice none 0 0, .bool false, .bool false, .int .i64 0, .int .i64 0] 90)) := ⟨_, rfl⟩
  have q_w1 := Lib.hid q0
  clear q0
  have HF : Hid (Fresh w w1) := by rw [q_w1.out]; exact ((Touch.refl _ w).alloc _).alloc _
  have HBR1 : Hid (Blk w1 (w.heap.size) 90 [.slice P.A1 r.sigs.length P.c1, .slice P.A2 r.units.length P.c2, .bool r.begins, .bool r.ends, .int .i64 r.ms, .int .i64 r.timer]) := by
    rw [q_w1.out]
    have := (Blk.new w 90 [.slice P.A1 r.sigs.length P.c1, .slice P.A2 r.units.length P.c2, .bool r.begins, .bool r.ends, .int .i64 r.ms, .int .i64 r.timer]).alloc (.cells #[.slice none 0 0, .slice none 0 0, .bool false, .bool false, .int .i64 0, .int .i64 0] 90)
    exact this
  have HGR : Hid (Kept K w w1 (w.heap.size)) := by rw [q_w1.out]; exact .inr ⟨by omega, by simp; try omega⟩
  have HBO1 : Hid (Blk w1 (w.heap.size + 1) 90 [.slice none 0 0, .slice none 0 0, .bool false, .bool false, .int .i64 0, .int .i64 0]) := by
    rw [q_w1.out]
    have := Blk.new (w.alloc (.cells #[.slice P.A1 r.sigs.length P.c1, .slice P.A2 r.units.length P.c2, .bool r.begins, .bool r.ends, .int .i64 r.ms, .int .i64 r.timer] 90)) 90 [.slice none 0 0, .slice none 0 0, .bool false, .bool false, .int .i64 0, .int .i64 0]
    rwa [show (w.alloc (.cells #[.slice P.A1 r.sigs.length P.c1, .slice P.A2 r.units.length P.c2, .bool r.begins, .bool r.ends, .int .i64 r.ms, .int .i64 r.timer] 90)).heap.size = w.heap.size + 1 by simp] at this
  have HGO : Hid (Kept K w w1 (w.heap.size + 1)) := by rw [q_w1.out]; exact .inr ⟨by omega, by simp; try omega⟩
  have HL : Hid (∀ k, K k → Kept K w w1 k) := by rw [q_w1.out]; exact fun k e => .inl e
  have HLIM : Hid (∀ k, K k → k < w.heap.size) := h.lim
  have HR1 := Lib.hid (h.keep HF.out)
  have HT1 : Hid (Touch (OfAct K) w w1) := HF.out.mono (fun _ _ e => e.elim)
  clear h HF
  go_enter Try.func71, Try.ntmps71
  go_upto_region 1 with (fail)
  rw [← q_w1.out]
  clear q_w1
  generalize Kept K w w1 = K1 at *
  generalize w.heap.size = g at *
  have xR0 : w1.cell? ⟨g, 0, none⟩ = some (.slice P.A1 r.sigs.length P.c1) := HBR1.out.cell 0
  have fR0 := HBR1.out.frozen 0
  have xR1 : w1.cell? ⟨g, 1, none⟩ = some (.slice P.A2 r.units.length P.c2) := HBR1.out.cell 1
  have fR1 := HBR1.out.frozen 1
  have xR2 : w1.cell? ⟨g, 2, none⟩ = some (.bool r.begins) := HBR1.out.cell 2
  have fR2 := HBR1.out.frozen 2
  have xR3 : w1.cell? ⟨g, 3, none⟩ = some (.bool r.ends) := HBR1.out.cell 3
  have fR3 := HBR1.out.frozen 3
  have xR4 : w1.cell? ⟨g, 4, none⟩ = some (.int .i64 r.ms) := HBR1.out.cell 4
  have fR4 := HBR1.out.frozen 4
  have xR5 : w1.cell? ⟨g, 5, none⟩ = some (.int .i64 r.timer) := HBR1.out.cell 5
  have fR5 := HBR1.out.frozen 5
  have xO0 : w1.cell? ⟨g + 1, 0, none⟩ = some (.slice none 0 0) := HBO1.out.cell 0
  have fO0 := HBO1.out.frozen 0
  have xO1 : w1.cell? ⟨g + 1, 1, none⟩ = some (.slice none 0 0) := HBO1.out.cell 1
  have fO1 := HBO1.out.frozen 1
  have xO2 : w1.cell? ⟨g + 1, 2, none⟩ = some (.bool false) := HBO1.out.cell 2
  have fO2 := HBO1.out.frozen 2
  have xO3 : w1.cell? ⟨g + 1, 3, none⟩ = some (.bool false) := HBO1.out.cell 3
  have fO3 := HBO1.out.frozen 3
  have xO4 : w1.cell? ⟨g + 1, 4, none⟩ = some (.int .i64 0) := HBO1.out.cell 4
  have fO4 := HBO1.out.frozen 4
  have xO5 : w1.cell? ⟨g + 1, 5, none⟩ = some (.int .i64 0) := HBO1.out.cell 5
  have fO5 := HBO1.out.frozen 5
  go_wp2_with (first
    | (at_builtin
       refine app_rsig rfl rfl (l := r.sigs) (l2 := [⟨12, ByteArray.empty, false, code, 0⟩]) rfl rfl (HR1.out.sigs.alloc _) (Sl.rd (Sl.lit rsigE w1 _ rfl _ [⟨12, ByteArray.empty, false, code, 0⟩] rfl _ rfl (by decide))) (by simp; omega) ?_
       intro A3 c3 L3 w2 hL3 hs2 ht2 hA2
       obtain ⟨hr2, t2⟩ := HR1.out.told ((Touch.refl _ w1).alloc _) hL3.out hs2 ht2 hA2
       have HBR2 := Lib.hid (t2.keptB HBR1.out HGR.out)
       have HBO2 := Lib.hid (t2.keptB HBO1.out HGO.out)
       have HR2 := Lib.hid hr2
       have HT2 : Hid (Touch (OfAct K) w w2) := HT1.out.trans (t2.loose HL.out) (fun _ _ e => e)
       clear hr2 t2 hs2 ht2 hA2 xR0 fR0 xR1 fR1 xR2 fR2 xR3 fR3 xR4 fR4 xR5 fR5 xO0 fO0 xO1 fO1 xO2 fO2 xO3 fO3 xO4 fO4 xO5 fO5
       have xR0 : w2.cell? ⟨g, 0, none⟩ = some (.slice P.A1 r.sigs.length P.c1) := HBR2.out.cell 0
       have fR0 := HBR2.out.frozen 0
       have xR1 : w2.cell? ⟨g, 1, none⟩ = some (.slice P.A2 r.units.length P.c2) := HBR2.out.cell 1
       have fR1 := HBR2.out.frozen 1
       have xR2 : w2.cell? ⟨g, 2, none⟩ = some (.bool r.begins) := HBR2.out.cell 2
       have fR2 := HBR2.out.frozen 2
       have xR3 : w2.cell? ⟨g, 3, none⟩ = some (.bool r.ends) := HBR2.out.cell 3
       have fR3 := HBR2.out.frozen 3
       have xR4 : w2.cell? ⟨g, 4, none⟩ = some (.int .i64 r.ms) := HBR2.out.cell 4
       have fR4 := HBR2.out.frozen 4
       have xR5 : w2.cell? ⟨g, 5, none⟩ = some (.int .i64 r.timer) := HBR2.out.cell 5
       have fR5 := HBR2.out.frozen 5
       have xO0 : w2.cell? ⟨g + 1, 0, none⟩ = some (.slice none 0 0) := HBO2.out.cell 0
       have fO0 := HBO2.out.frozen 0
       have xO1 : w2.cell? ⟨g + 1, 1, none⟩ = some (.slice none 0 0) := HBO2.out.cell 1
       have fO1 := HBO2.out.frozen 1
       have xO2 : w2.cell? ⟨g + 1, 2, none⟩ = some (.bool false) := HBO2.out.cell 2
       have fO2 := HBO2.out.frozen 2
       have xO3 : w2.cell? ⟨g + 1, 3, none⟩ = some (.bool false) := HBO2.out.cell 3
       have fO3 := HBO2.out.frozen 3
       have xO4 : w2.cell? ⟨g + 1, 4, none⟩ = some (.int .i64 0) := HBO2.out.cell 4
       have fO4 := HBO2.out.frozen 4
       have xO5 : w2.cell? ⟨g + 1, 5, none⟩ = some (.int .i64 0) := HBO2.out.cell 5
       have fO5 := HBO2.out.frozen 5))
  have htq3_1 : Touch (· = g) w2 (w2.setCell ⟨g, 0, none⟩ (.slice A3 L3.length c3)) := ((Touch.refl _ w2).st (S := (· = g)) (u := .slice A3 L3.length c3) (by exact rfl))
  have hbq3_1 : Blk (w2.setCell ⟨g, 0, none⟩ (.slice A3 L3.length c3)) (g) 90 [.slice A3 L3.length c3, .slice P.A2 r.units.length P.c2, .bool r.begins, .bool r.ends, .int .i64 r.ms, .int .i64 r.timer] := (HBR2.out.set 0 (.slice A3 L3.length c3))
  have hoq3_1O := htq3_1.blk HBO2.out (by intro e; have e : g + 1 = g := e; omega)
  have hrq3_1 := HR2.out.touch htq3_1 (fun k e => by have e : k = g := e; rw [e]; exact HGR.out)
  have hTq3_1 : Touch (OfAct K) w (w2.setCell ⟨g, 0, none⟩ (.slice A3 L3.length c3)) := HT2.out.trans htq3_1 (fun k _ e => by have e : k = g := e; intro hk; have := HLIM.out k hk; omega)
  obtain ⟨w3, q0⟩ : ∃ x : World, x = (((((((w2.setCell ⟨g, 0, none⟩ (.slice A3 L3.length c3)).setCell ⟨g + 1, 0, none⟩ (.slice A3 L3.length c3)).setCell ⟨g + 1, 1, none⟩ (.slice P.A2 r.units.length P.c2)).setCell ⟨g + 1, 2, none⟩ (.bool r.begins)).setCell ⟨g + 1, 3, none⟩ (.bool r.ends)).setCell ⟨g + 1, 4, none⟩ (.int .i64 r.ms)).setCell ⟨g + 1, 5, none⟩ (.int .i64 r.timer)) := ⟨_, rfl⟩
  have q_w3 := Lib.hid q0
  clear q0
  have htq3_2 : Touch (· = g + 1) (w2.setCell ⟨g, 0, none⟩ (.slice A3 L3.length c3)) w3 := by rw [q_w3.out]; exact (((((((Touch.refl _ (w2.setCell ⟨g, 0, none⟩ (.slice A3 L3.length c3))).st (S := (· = g + 1)) (u := .slice A3 L3.length c3) (by exact rfl)).st (S := (· = g + 1)) (u := .slice P.A2 r.units.length P.c2) (by exact rfl)).st (S := (· = g + 1)) (u := .bool r.begins) (by exact rfl)).st (S := (· = g + 1)) (u := .bool r.ends) (by exact rfl)).st (S := (· = g + 1)) (u := .int .i64 r.ms) (by exact rfl)).st (S := (· = g + 1)) (u := .int .i64 r.timer) (by exact rfl))
  have hbq3_2 : Blk w3 (g + 1) 90 [.slice A3 L3.length c3, .slice P.A2 r.units.length P.c2, .bool r.begins, .bool r.ends, .int .i64 r.ms, .int .i64 r.timer] := by rw [q_w3.out]; exact ((((((hoq3_1O.set 0 (.slice A3 L3.length c3)).set 1 (.slice P.A2 r.units.length P.c2)).set 2 (.bool r.begins)).set 3 (.bool r.ends)).set 4 (.int .i64 r.ms)).set 5 (.int .i64 r.timer))
  have hoq3_2R := htq3_2.blk hbq3_1 (by intro e; have e : g = g + 1 := e; omega)
  have hrq3_2 := hrq3_1.touch htq3_2 (fun k e => by have e : k = g + 1 := e; rw [e]; exact HGO.out)
  have hTq3_2 : Touch (OfAct K) w w3 := hTq3_1.trans htq3_2 (fun k _ e => by have e : k = g + 1 := e; intro hk; have := HLIM.out k hk; omega)
  clear xR0 fR0 xR1 fR1 xR2 fR2 xR3 fR3 xR4 fR4 xR5 fR5 xO0 fO0 xO1 fO1 xO2 fO2 xO3 fO3 xO4 fO4 xO5 fO5
  have HBR3 : Hid (Blk w3 (g) 90 [.slice A3 L3.length c3, .slice P.A2 r.units.length P.c2, .bool r.begins, .bool r.ends, .int .i64 r.ms, .int .i64 r.timer]) := hoq3_2R
  have HBO3 : Hid (Blk w3 (g + 1) 90 [.slice A3 L3.length c3, .slice P.A2 r.units.length P.c2, .bool r.begins, .bool r.ends, .int .i64 r.ms, .int .i64 r.timer]) := hbq3_2
  have HR3 := Lib.hid hrq3_2
  have HT3 : Hid (Touch (OfAct K) w w3) := hTq3_2
  clear HBR2 HBO2 HR2 HT2 htq3_1 hbq3_1 hrq3_1 hTq3_1 hoq3_1O htq3_2 hbq3_2 hrq3_2 hTq3_2 hoq3_2R
  rw [← q_w3.out]
  clear q_w3
  have HX : Hid (∀ e, e = .returned (.agg #[.slice A3 L3.length c3, .slice P.A2 r.units.length P.c2, .bool r.begins, .bool r.ends, .int .i64 r.ms, .int .i64 r.timer]) → RPost1 K (n + 1) ({ r with sigs := r.sigs ++ [⟨12, ByteArray.empty, false, code, 0⟩] }) w e w3) := fun e he => ⟨{ P with A1 := A3, c1 := c3 }, he.trans (by first | rfl | (rw [hL3.out]; rfl) | (rw [← hL3.out])), by (refine ((HR3.out.less HL.out).wide (by omega)).eq ?_ ?_ <;> first | rfl | (rw [hL3.out]; rfl) | (rw [← hL3.out])), HT3.out⟩
  have zO0 : w3.cell? ⟨g + 1, 0, none⟩ = some (.slice A3 L3.length c3) := HBO3.out.cell 0
  have zO1 : w3.cell? ⟨g + 1, 1, none⟩ = some (.slice P.A2 r.units.length P.c2) := HBO3.out.cell 1
  have zO2 : w3.cell? ⟨g + 1, 2, none⟩ = some (.bool r.begins) := HBO3.out.cell 2
  have zO3 : w3.cell? ⟨g + 1, 3, none⟩ = some (.bool r.ends) := HBO3.out.cell 3
  have zO4 : w3.cell? ⟨g + 1, 4, none⟩ = some (.int .i64 r.ms) := HBO3.out.cell 4
  have zO5 : w3.cell? ⟨g + 1, 5, none⟩ = some (.int .i64 r.timer) := HBO3.out.cell 5
  go_wp2
  exact bodyPost_ret (v := _) (by simp [results, Try.results71, go_sem, zO0, zO1, zO2, zO3, zO4, zO5]) rfl (HX.out _ rfl)

set_option maxHeartbeats 4000000 in
set_option maxRecDepth 100000 in
theorem rout_any {K : Nat → Prop} {n : Nat} {w : World} {P : RP} {s : Cn.S} {r : Cn.R} (h : RIn K n w P r) (hn : n ≤ 90) (kind sq : Int) (self : Bool) (d : ByteArray) :
    Calls Try.prog 67 #[rcV s, rrV P r, .int .i64 kind, .int .i64 sq, .bool self, .string d] w (RPost1 K (n + 1) (Cn.out (s, r) (Cn.unit_ kind sq self d)).2 w) := by
  unfold rcV rrV
  have hl := h.l2
  obtain ⟨w1, q0⟩ : ∃ x : World, x = (((w.alloc (.cells #[.int .i64 s.most, .int .i64 s.credit, .int .i64 s.state, .int .i64 s.sq, .int .i64 s.peer, .int .i64 s.cc, .int .i64 s.ms, .string s.data] 59)).alloc (.cells #[.slice P.A1 r.sigs.length P.c1, .slice P.A2 r.units.length P.c2, .bool r.begins, .bool r.ends, .int .i64 r.ms, .int .i64 r.timer] 90)).alloc (.cells #[.slice none 0 0, .slice none 0 0, .bool false, .bool false, .int .i64 0, .int .i64 0] 90)) := ⟨_, rfl⟩
  have q_w1 := Lib.hid q0
  clear q0
  have HF : Hid (Fresh w w1) := by rw [q_w1.out]; exact (((Touch.refl _ w).alloc _).alloc _).alloc _
  have HBC1 : Hid (Blk w1 (w.heap.size) 59 [.int .i64 s.most, .int .i64 s.credit, .int .i64 s.state, .int .i64 s.sq, .int .i64 s.peer, .int .i64 s.cc, .int .i64 s.ms, .string s.data]) := by
    rw [q_w1.out]
    have := ((Blk.new w 59 [.int .i64 s.most, .int .i64 s.credit, .int .i64 s.state, .int .i64 s.sq, .int .i64 s.peer, .int .i64 s.cc, .int .i64 s.ms, .string s.data]).alloc (.cells #[.slice P.A1 r.sigs.length P.c1, .slice P.A2 r.units.length P.c2, .bool r.begins, .bool r.ends, .int .i64 r.ms, .int .i64 r.timer] 90)).alloc (.cells #[.slice none 0 0, .slice none 0 0, .bool false, .bool false, .int .i64 0, .int .i64 0] 90)
    exact this
  have HGC : Hid (Kept K w w1 (w.heap.size)) := by rw [q_w1.out]; exact .inr ⟨by omega, by simp; try omega⟩
  have HBR1 : Hid (Blk w1 (w.heap.size + 1) 90 [.slice P.A1 r.sigs.length P.c1, .slice P.A2 r.units.length P.c2, .bool r.begins, .bool r.ends, .int .i64 r.ms, .int .i64 r.timer]) := by
    rw [q_w1.out]
    have := (Blk.new (w.alloc (.cells #[.int .i64 s.most, .int .i64 s.credit, .int .i64 s.state, .int .i64 s.sq, .int .i64 s.peer, .int .i64 s.cc, .int .i64 s.ms, .string s.data] 59)) 90 [.slice P.A1 r.sigs.length P.c1, .slice P.A2 r.units.length P.c2, .bool r.begins, .bool r.ends, .int .i64 r.ms, .int .i64 r.timer]).alloc (.cells #[.slice none 0 0, .slice none 0 0, .bool false, .bool false, .int .i64 0, .int .i64 0] 90)
    rwa [show (w.alloc (.cells #[.int .i64 s.most, .int .i64 s.credit, .int .i64 s.state, .int .i64 s.sq, .int .i64 s.peer, .int .i64 s.cc, .int .i64 s.ms, .string s.data] 59)).heap.size = w.heap.size + 1 by simp] at this
  have HGR : Hid (Kept K w w1 (w.heap.size + 1)) := by rw [q_w1.out]; exact .inr ⟨by omega, by simp; try omega⟩
  have HBO1 : Hid (Blk w1 (w.heap.size + 1 + 1) 90 [.slice none 0 0, .slice none 0 0, .bool false, .bool false, .int .i64 0, .int .i64 0]) := by
    rw [q_w1.out]
    have := Blk.new ((w.alloc (.cells #[.int .i64 s.most, .int .i64 s.credit, .int .i64 s.state, .int .i64 s.sq, .int .i64 s.peer, .int .i64 s.cc, .int .i64 s.ms, .string s.data] 59)).alloc (.cells #[.slice P.A1 r.sigs.length P.c1, .slice P.A2 r.units.length P.c2, .bool r.begins, .bool r.ends, .int .i64 r.ms, .int .i64 r.timer] 90)) 90 [.slice none 0 0, .slice none 0 0, .bool false, .bool false, .int .i64 0, .int .i64 0]
    rwa [show ((w.alloc (.cells #[.int .i64 s.most, .int .i64 s.credit, .int .i64 s.state, .int .i64 s.sq, .int .i64 s.peer, .int .i64 s.cc, .int .i64 s.ms, .string s.data] 59)).alloc (.cells #[.slice P.A1 r.sigs.length P.c1, .slice P.A2 r.units.length P.c2, .bool r.begins, .bool r.ends, .int .i64 r.ms, .int .i64 r.timer] 90)).heap.size = w.heap.size + 1 + 1 by simp] at this
  have HGO : Hid (Kept K w w1 (w.heap.size + 1 + 1)) := by rw [q_w1.out]; exact .inr ⟨by omega, by simp; try omega⟩
  have HL : Hid (∀ k, K k → Kept K w w1 k) := by rw [q_w1.out]; exact fun k e => .inl e
  have HLIM : Hid (∀ k, K k → k < w.heap.size) := h.lim
  have HR1 := Lib.hid (h.keep HF.out)
  have HT1 : Hid (Touch (OfAct K) w w1) := HF.out.mono (fun _ _ e => e.elim)
  clear h HF
  go_enter Try.func67, Try.ntmps67
  go_upto_region 1 with (fail)
  rw [← q_w1.out]
  clear q_w1
  generalize Kept K w w1 = K1 at *
  generalize w.heap.size = g at *
  have xC0 : w1.cell? ⟨g, 0, none⟩ = some (.int .i64 s.most) := HBC1.out.cell 0
  have xC1 : w1.cell? ⟨g, 1, none⟩ = some (.int .i64 s.credit) := HBC1.out.cell 1
  have xC2 : w1.cell? ⟨g, 2, none⟩ = some (.int .i64 s.state) := HBC1.out.cell 2
  have xC3 : w1.cell? ⟨g, 3, none⟩ = some (.int .i64 s.sq) := HBC1.out.cell 3
  have xC4 : w1.cell? ⟨g, 4, none⟩ = some (.int .i64 s.peer) := HBC1.out.cell 4
  have xC5 : w1.cell? ⟨g, 5, none⟩ = some (.int .i64 s.cc) := HBC1.out.cell 5
  have xC6 : w1.cell? ⟨g, 6, none⟩ = some (.int .i64 s.ms) := HBC1.out.cell 6
  have xC7 : w1.cell? ⟨g, 7, none⟩ = some (.string s.data) := HBC1.out.cell 7
  have xR0 : w1.cell? ⟨g + 1, 0, none⟩ = some (.slice P.A1 r.sigs.length P.c1) := HBR1.out.cell 0
  have fR0 := HBR1.out.frozen 0
  have xR1 : w1.cell? ⟨g + 1, 1, none⟩ = some (.slice P.A2 r.units.length P.c2) := HBR1.out.cell 1
  have fR1 := HBR1.out.frozen 1
  have xR2 : w1.cell? ⟨g + 1, 2, none⟩ = some (.bool r.begins) := HBR1.out.cell 2
  have fR2 := HBR1.out.frozen 2
  have xR3 : w1.cell? ⟨g + 1, 3, none⟩ = some (.bool r.ends) := HBR1.out.cell 3
  have fR3 := HBR1.out.frozen 3
  have xR4 : w1.cell? ⟨g + 1, 4, none⟩ = some (.int .i64 r.ms) := HBR1.out.cell 4
  have fR4 := HBR1.out.frozen 4
  have xR5 : w1.cell? ⟨g + 1, 5, none⟩ = some (.int .i64 r.timer) := HBR1.out.cell 5
  have fR5 := HBR1.out.frozen 5
  have xO0 : w1.cell? ⟨g + 1 + 1, 0, none⟩ = some (.slice none 0 0) := HBO1.out.cell 0
  have fO0 := HBO1.out.frozen 0
  have xO1 : w1.cell? ⟨g + 1 + 1, 1, none⟩ = some (.slice none 0 0) := HBO1.out.cell 1
  have fO1 := HBO1.out.frozen 1
  have xO2 : w1.cell? ⟨g + 1 + 1, 2, none⟩ = some (.bool false) := HBO1.out.cell 2
  have fO2 := HBO1.out.frozen 2
  have xO3 : w1.cell? ⟨g + 1 + 1, 3, none⟩ = some (.bool false) := HBO1.out.cell 3
  have fO3 := HBO1.out.frozen 3
  have xO4 : w1.cell? ⟨g + 1 + 1, 4, none⟩ = some (.int .i64 0) := HBO1.out.cell 4
  have fO4 := HBO1.out.frozen 4
  have xO5 : w1.cell? ⟨g + 1 + 1, 5, none⟩ = some (.int .i64 0) := HBO1.out.cell 5
  have fO5 := HBO1.out.frozen 5
  by_cases e1 : kind = 1
  · subst e1
    have HM : Hid (Cn.crd s (Cn.unit_ 1 sq self d) = ⟨1, sq, s.credit, 0, 0, none, 0, 0, self, d⟩) := rfl
    go_wp2_with (first
      | (at_builtin
         refine app_runit rfl rfl (l := r.units) (l2 := [⟨1, sq, s.credit, 0, 0, none, 0, 0, self, d⟩]) rfl rfl (HR1.out.units.alloc _) (Sl.rd (Sl.lit runitE w1 _ rfl _ [⟨1, sq, s.credit, 0, 0, none, 0, 0, self, d⟩] rfl _ rfl (by decide))) (by simp; omega) ?_
         intro A3 c3 L3 w2 hL3 hs2 ht2 hA2
         obtain ⟨hr2, t2⟩ := HR1.out.sent ((Touch.refl _ w1).alloc _) hL3.out hs2 ht2 hA2
         have HBC2 := Lib.hid (t2.keptB HBC1.out HGC.out)
         have HBR2 := Lib.hid (t2.keptB HBR1.out HGR.out)
         have HBO2 := Lib.hid (t2.keptB HBO1.out HGO.out)
         have HR2 := Lib.hid hr2
         have HT2 : Hid (Touch (OfAct K) w w2) := HT1.out.trans (t2.loose HL.out) (fun _ _ e => e)
         clear hr2 t2 hs2 ht2 hA2 xC0 xC1 xC2 xC3 xC4 xC5 xC6 xC7 xR0 fR0 xR1 fR1 xR2 fR2 xR3 fR3 xR4 fR4 xR5 fR5 xO0 fO0 xO1 fO1 xO2 fO2 xO3 fO3 xO4 fO4 xO5 fO5
         have xC0 : w2.cell? ⟨g, 0, none⟩ = some (.int .i64 s.most) := HBC2.out.cell 0
         have fC0 := HBC2.out.frozen 0
         have xC1 : w2.cell? ⟨g, 1, none⟩ = some (.int .i64 s.credit) := HBC2.out.cell 1
         have fC1 := HBC2.out.frozen 1
         have xC2 : w2.cell? ⟨g, 2, none⟩ = some (.int .i64 s.state) := HBC2.out.cell 2
         have fC2 := HBC2.out.frozen 2
         have xC3 : w2.cell? ⟨g, 3, none⟩ = some (.int .i64 s.sq) := HBC2.out.cell 3
         have fC3 := HBC2.out.frozen 3
         have xC4 : w2.cell? ⟨g, 4, none⟩ = some (.int .i64 s.peer) := HBC2.out.cell 4
         have fC4 := HBC2.out.frozen 4
         have xC5 : w2.cell? ⟨g, 5, none⟩ = some (.int .i64 s.cc) := HBC2.out.cell 5
         have fC5 := HBC2.out.frozen 5
         have xC6 : w2.cell? ⟨g, 6, none⟩ = some (.int .i64 s.ms) := HBC2.out.cell 6
         have fC6 := HBC2.out.frozen 6
         have xC7 : w2.cell? ⟨g, 7, none⟩ = some (.string s.data) := HBC2.out.cell 7
         have fC7 := HBC2.out.frozen 7
         have xR0 : w2.cell? ⟨g + 1, 0, none⟩ = some (.slice P.A1 r.sigs.length P.c1) := HBR2.out.cell 0
         have fR0 := HBR2.out.frozen 0
         have xR1 : w2.cell? ⟨g + 1, 1, none⟩ = some (.slice P.A2 r.units.length P.c2) := HBR2.out.cell 1
         have fR1 := HBR2.out.frozen 1
         have xR2 : w2.cell? ⟨g + 1, 2, none⟩ = some (.bool r.begins) := HBR2.out.cell 2
         have fR2 := HBR2.out.frozen 2
         have xR3 : w2.cell? ⟨g + 1, 3, none⟩ = some (.bool r.ends) := HBR2.out.cell 3
         have fR3 := HBR2.out.frozen 3
         have xR4 : w2.cell? ⟨g + 1, 4, none⟩ = some (.int .i64 r.ms) := HBR2.out.cell 4
         have fR4 := HBR2.out.frozen 4
         have xR5 : w2.cell? ⟨g + 1, 5, none⟩ = some (.int .i64 r.timer) := HBR2.out.cell 5
         have fR5 := HBR2.out.frozen 5
         have xO0 : w2.cell? ⟨g + 1 + 1, 0, none⟩ = some (.slice none 0 0) := HBO2.out.cell 0
         have fO0 := HBO2.out.frozen 0
         have xO1 : w2.cell? ⟨g + 1 + 1, 1, none⟩ = some (.slice none 0 0) := HBO2.out.cell 1
         have fO1 := HBO2.out.frozen 1
         have xO2 : w2.cell? ⟨g + 1 + 1, 2, none⟩ = some (.bool false) := HBO2.out.cell 2
         have fO2 := HBO2.out.frozen 2
         have xO3 : w2.cell? ⟨g + 1 + 1, 3, none⟩ = some (.bool false) := HBO2.out.cell 3
         have fO3 := HBO2.out.frozen 3
         have xO4 : w2.cell? ⟨g + 1 + 1, 4, none⟩ = some (.int .i64 0) := HBO2.out.cell 4
         have fO4 := HBO2.out.frozen 4
         have xO5 : w2.cell? ⟨g + 1 + 1, 5, none⟩ = some (.int .i64 0) := HBO2.out.cell 5
         have fO5 := HBO2.out.frozen 5))
    have htq3_1 : Touch (· = g + 1) w2 (w2.setCell ⟨g + 1, 1, none⟩ (.slice A3 L3.length c3)) := ((Touch.refl _ w2).st (S := (· = g + 1)) (u := .slice A3 L3.length c3) (by exact rfl))
    have hbq3_1 : Blk (w2.setCell ⟨g + 1, 1, none⟩ (.slice A3 L3.length c3)) (g + 1) 90 [.slice P.A1 r.sigs.length P.c1, .slice A3 L3.length c3, .bool r.begins, .bool r.ends, .int .i64 r.ms, .int .i64 r.timer] := (HBR2.out.set 1 (.slice A3 L3.length c3))
    have hoq3_1C := htq3_1.blk HBC2.out (by intro e; have e : g = g + 1 := e; omega)
    have hoq3_1O := htq3_1.blk HBO2.out (by intro e; have e : g + 1 + 1 = g + 1 := e; omega)
    have hrq3_1 := HR2.out.touch htq3_1 (fun k e => by have e : k = g + 1 := e; rw [e]; exact HGR.out)
    have hTq3_1 : Touch (OfAct K) w (w2.setCell ⟨g + 1, 1, none⟩ (.slice A3 L3.length c3)) := HT2.out.trans htq3_1 (fun k _ e => by have e : k = g + 1 := e; intro hk; have := HLIM.out k hk; omega)
    obtain ⟨w3, q0⟩ : ∃ x : World, x = (((((((w2.setCell ⟨g + 1, 1, none⟩ (.slice A3 L3.length c3)).setCell ⟨g + 1 + 1, 0, none⟩ (.slice P.A1 r.sigs.length P.c1)).setCell ⟨g + 1 + 1, 1, none⟩ (.slice A3 L3.length c3)).setCell ⟨g + 1 + 1, 2, none⟩ (.bool r.begins)).setCell ⟨g + 1 + 1, 3, none⟩ (.bool r.ends)).setCell ⟨g + 1 + 1, 4, none⟩ (.int .i64 r.ms)).setCell ⟨g + 1 + 1, 5, none⟩ (.int .i64 r.timer)) := ⟨_, rfl⟩
    have q_w3 := Lib.hid q0
    clear q0
    have htq3_2 : Touch (· = g + 1 + 1) (w2.setCell ⟨g + 1, 1, none⟩ (.slice A3 L3.length c3)) w3 := by rw [q_w3.out]; exact (((((((Touch.refl _ (w2.setCell ⟨g + 1, 1, none⟩ (.slice A3 L3.length c3))).st (S := (· = g + 1 + 1)) (u := .slice P.A1 r.sigs.length P.c1) (by exact rfl)).st (S := (· = g + 1 + 1)) (u := .slice A3 L3.length c3) (by exact rfl)).st (S := (· = g + 1 + 1)) (u := .bool r.begins) (by exact rfl)).st (S := (· = g + 1 + 1)) (u := .bool r.ends) (by exact rfl)).st (S := (· = g + 1 + 1)) (u := .int .i64 r.ms) (by exact rfl)).st (S := (· = g + 1 + 1)) (u := .int .i64 r.timer) (by exact rfl))
    have hbq3_2 : Blk w3 (g + 1 + 1) 90 [.slice P.A1 r.sigs.length P.c1, .slice A3 L3.length c3, .bool r.begins, .bool r.ends, .int .i64 r.ms, .int .i64 r.timer] := by rw [q_w3.out]; exact ((((((hoq3_1O.set 0 (.slice P.A1 r.sigs.length P.c1)).set 1 (.slice A3 L3.length c3)).set 2 (.bool r.begins)).set 3 (.bool r.ends)).set 4 (.int .i64 r.ms)).set 5 (.int .i64 r.timer))
    have hoq3_2C := htq3_2.blk hoq3_1C (by intro e; have e : g = g + 1 + 1 := e; omega)
    have hoq3_2R := htq3_2.blk hbq3_1 (by intro e; have e : g + 1 = g + 1 + 1 := e; omega)
    have hrq3_2 := hrq3_1.touch htq3_2 (fun k e => by have e : k = g + 1 + 1 := e; rw [e]; exact HGO.out)
    have hTq3_2 : Touch (OfAct K) w w3 := hTq3_1.trans htq3_2 (fun k _ e => by have e : k = g + 1 + 1 := e; intro hk; have := HLIM.out k hk; omega)
    clear xC0 fC0 xC1 fC1 xC2 fC2 xC3 fC3 xC4 fC4 xC5 fC5 xC6 fC6 xC7 fC7 xR0 fR0 xR1 fR1 xR2 fR2 xR3 fR3 xR4 fR4 xR5 fR5 xO0 fO0 xO1 fO1 xO2 fO2 xO3 fO3 xO4 fO4 xO5 fO5
    have HBC3 : Hid (Blk w3 (g) 59 [.int .i64 s.most, .int .i64 s.credit, .int .i64 s.state, .int .i64 s.sq, .int .i64 s.peer, .int .i64 s.cc, .int .i64 s.ms, .string s.data]) := hoq3_2C
    have HBR3 : Hid (Blk w3 (g + 1) 90 [.slice P.A1 r.sigs.length P.c1, .slice A3 L3.length c3, .bool r.begins, .bool r.ends, .int .i64 r.ms, .int .i64 r.timer]) := hoq3_2R
    have HBO3 : Hid (Blk w3 (g + 1 + 1) 90 [.slice P.A1 r.sigs.length P.c1, .slice A3 L3.length c3, .bool r.begins, .bool r.ends, .int .i64 r.ms, .int .i64 r.timer]) := hbq3_2
    have HR3 := Lib.hid hrq3_2
    have HT3 : Hid (Touch (OfAct K) w w3) := hTq3_2
    clear HBC2 HBR2 HBO2 HR2 HT2 htq3_1 hbq3_1 hrq3_1 hTq3_1 hoq3_1C hoq3_1O htq3_2 hbq3_2 hrq3_2 hTq3_2 hoq3_2C hoq3_2R
    rw [← q_w3.out]
    clear q_w3
    have HX : Hid (∀ e, e = .returned (.agg #[.slice P.A1 r.sigs.length P.c1, .slice A3 L3.length c3, .bool r.begins, .bool r.ends, .int .i64 r.ms, .int .i64 r.timer]) → RPost1 K (n + 1) ((Cn.out (s, r) (Cn.unit_ 1 sq self d)).2) w e w3) := fun e he => ⟨{ P with A2 := A3, c2 := c3 }, he.trans (by first | rfl | (show L3 = r.units ++ [Cn.crd s (Cn.unit_ 1 sq self d)]; rw [hL3.out, HM.out]) | (unfold Cn.out; simp only [HM.out, ← hL3.out]; rfl)), by (refine ((HR3.out.less HL.out).wide (by omega)).eq ?_ ?_ <;> first | rfl | (show L3 = r.units ++ [Cn.crd s (Cn.unit_ 1 sq self d)]; rw [hL3.out, HM.out]) | (unfold Cn.out; simp only [HM.out, ← hL3.out]; rfl)), HT3.out⟩
    have zO0 : w3.cell? ⟨g + 1 + 1, 0, none⟩ = some (.slice P.A1 r.sigs.length P.c1) := HBO3.out.cell 0
    have zO1 : w3.cell? ⟨g + 1 + 1, 1, none⟩ = some (.slice A3 L3.length c3) := HBO3.out.cell 1
    have zO2 : w3.cell? ⟨g + 1 + 1, 2, none⟩ = some (.bool r.begins) := HBO3.out.cell 2
    have zO3 : w3.cell? ⟨g + 1 + 1, 3, none⟩ = some (.bool r.ends) := HBO3.out.cell 3
    have zO4 : w3.cell? ⟨g + 1 + 1, 4, none⟩ = some (.int .i64 r.ms) := HBO3.out.cell 4
    have zO5 : w3.cell? ⟨g + 1 + 1, 5, none⟩ = some (.int .i64 r.timer) := HBO3.out.cell 5
    go_wp2
    exact bodyPost_ret (v := _) (by simp [results, Try.results67, go_sem, zO0, zO1, zO2, zO3, zO4, zO5]) rfl (HX.out _ rfl)
  by_cases e2 : kind = 2
  · subst e2
    have HM : Hid (Cn.crd s (Cn.unit_ 2 sq self d) = ⟨2, sq, s.credit, 0, 0, none, 0, 0, self, d⟩) := rfl
    go_wp2_with (first
      | (at_builtin
         refine app_runit rfl rfl (l := r.units) (l2 := [⟨2, sq, s.credit, 0, 0, none, 0, 0, self, d⟩]) rfl rfl (HR1.out.units.alloc _) (Sl.rd (Sl.lit runitE w1 _ rfl _ [⟨2, sq, s.credit, 0, 0, none, 0, 0, self, d⟩] rfl _ rfl (by decide))) (by simp; omega) ?_
         intro A3 c3 L3 w2 hL3 hs2 ht2 hA2
         obtain ⟨hr2, t2⟩ := HR1.out.sent ((Touch.refl _ w1).alloc _) hL3.out hs2 ht2 hA2
         have HBC2 := Lib.hid (t2.keptB HBC1.out HGC.out)
         have HBR2 := Lib.hid (t2.keptB HBR1.out HGR.out)
         have HBO2 := Lib.hid (t2.keptB HBO1.out HGO.out)
         have HR2 := Lib.hid hr2
         have HT2 : Hid (Touch (OfAct K) w w2) := HT1.out.trans (t2.loose HL.out) (fun _ _ e => e)
         clear hr2 t2 hs2 ht2 hA2 xC0 xC1 xC2 xC3 xC4 xC5 xC6 xC7 xR0 fR0 xR1 fR1 xR2 fR2 xR3 fR3 xR4 fR4 xR5 fR5 xO0 fO0 xO1 fO1 xO2 fO2 xO3 fO3 xO4 fO4 xO5 fO5
         have xC0 : w2.cell? ⟨g, 0, none⟩ = some (.int .i64 s.most) := HBC2.out.cell 0
         have fC0 := HBC2.out.frozen 0
         have xC1 : w2.cell? ⟨g, 1, none⟩ = some (.int .i64 s.credit) := HBC2.out.cell 1
         have fC1 := HBC2.out.frozen 1
         have xC2 : w2.cell? ⟨g, 2, none⟩ = some (.int .i64 s.state) := HBC2.out.cell 2
         have fC2 := HBC2.out.frozen 2
         have xC3 : w2.cell? ⟨g, 3, none⟩ = some (.int .i64 s.sq) := HBC2.out.cell 3
         have fC3 := HBC2.out.frozen 3
         have xC4 : w2.cell? ⟨g, 4, none⟩ = some (.int .i64 s.peer) := HBC2.out.cell 4
         have fC4 := HBC2.out.frozen 4
         have xC5 : w2.cell? ⟨g, 5, none⟩ = some (.int .i64 s.cc) := HBC2.out.cell 5
         have fC5 := HBC2.out.frozen 5
         have xC6 : w2.cell? ⟨g, 6, none⟩ = some (.int .i64 s.ms) := HBC2.out.cell 6
         have fC6 := HBC2.out.frozen 6
         have xC7 : w2.cell? ⟨g, 7, none⟩ = some (.string s.data) := HBC2.out.cell 7
         have fC7 := HBC2.out.frozen 7
         have xR0 : w2.cell? ⟨g + 1, 0, none⟩ = some (.slice P.A1 r.sigs.length P.c1) := HBR2.out.cell 0
         have fR0 := HBR2.out.frozen 0
         have xR1 : w2.cell? ⟨g + 1, 1, none⟩ = some (.slice P.A2 r.units.length P.c2) := HBR2.out.cell 1
         have fR1 := HBR2.out.frozen 1
         have xR2 : w2.cell? ⟨g + 1, 2, none⟩ = some (.bool r.begins) := HBR2.out.cell 2
         have fR2 := HBR2.out.frozen 2
         have xR3 : w2.cell? ⟨g + 1, 3, none⟩ = some (.bool r.ends) := HBR2.out.cell 3
         have fR3 := HBR2.out.frozen 3
         have xR4 : w2.cell? ⟨g + 1, 4, none⟩ = some (.int .i64 r.ms) := HBR2.out.cell 4
         have fR4 := HBR2.out.frozen 4
         have xR5 : w2.cell? ⟨g + 1, 5, none⟩ = some (.int .i64 r.timer) := HBR2.out.cell 5
         have fR5 := HBR2.out.frozen 5
         have xO0 : w2.cell? ⟨g + 1 + 1, 0, none⟩ = some (.slice none 0 0) := HBO2.out.cell 0
         have fO0 := HBO2.out.frozen 0
         have xO1 : w2.cell? ⟨g + 1 + 1, 1, none⟩ = some (.slice none 0 0) := HBO2.out.cell 1
         have fO1 := HBO2.out.frozen 1
         have xO2 : w2.cell? ⟨g + 1 + 1, 2, none⟩ = some (.bool false) := HBO2.out.cell 2
         have fO2 := HBO2.out.frozen 2
         have xO3 : w2.cell? ⟨g + 1 + 1, 3, none⟩ = some (.bool false) := HBO2.out.cell 3
         have fO3 := HBO2.out.frozen 3
         have xO4 : w2.cell? ⟨g + 1 + 1, 4, none⟩ = some (.int .i64 0) := HBO2.out.cell 4
         have fO4 := HBO2.out.frozen 4
         have xO5 : w2.cell? ⟨g + 1 + 1, 5, none⟩ = some (.int .i64 0) := HBO2.out.cell 5
         have fO5 := HBO2.out.frozen 5))
    have htq3_1 : Touch (· = g + 1) w2 (w2.setCell ⟨g + 1, 1, none⟩ (.slice A3 L3.length c3)) := ((Touch.refl _ w2).st (S := (· = g + 1)) (u := .slice A3 L3.length c3) (by exact rfl))
    have hbq3_1 : Blk (w2.setCell ⟨g + 1, 1, none⟩ (.slice A3 L3.length c3)) (g + 1) 90 [.slice P.A1 r.sigs.length P.c1, .slice A3 L3.length c3, .bool r.begins, .bool r.ends, .int .i64 r.ms, .int .i64 r.timer] := (HBR2.out.set 1 (.slice A3 L3.length c3))
    have hoq3_1C := htq3_1.blk HBC2.out (by intro e; have e : g = g + 1 := e; omega)
    have hoq3_1O := htq3_1.blk HBO2.out (by intro e; have e : g + 1 + 1 = g + 1 := e; omega)
    have hrq3_1 := HR2.out.touch htq3_1 (fun k e => by have e : k = g + 1 := e; rw [e]; exact HGR.out)
    have hTq3_1 : Touch (OfAct K) w (w2.setCell ⟨g + 1, 1, none⟩ (.slice A3 L3.length c3)) := HT2.out.trans htq3_1 (fun k _ e => by have e : k = g + 1 := e; intro hk; have := HLIM.out k hk; omega)
    have htq3_2 : Touch (· = g + 1 + 1) (w2.setCell ⟨g + 1, 1, none⟩ (.slice A3 L3.length c3)) (((((((w2.setCell ⟨g + 1, 1, none⟩ (.slice A3 L3.length c3)).setCell ⟨g + 1 + 1, 0, none⟩ (.slice P.A1 r.sigs.length P.c1)).setCell ⟨g + 1 + 1, 1, none⟩ (.slice A3 L3.length c3)).setCell ⟨g + 1 + 1, 2, none⟩ (.bool r.begins)).setCell ⟨g + 1 + 1, 3, none⟩ (.bool r.ends)).setCell ⟨g + 1 + 1, 4, none⟩ (.int .i64 r.ms)).setCell ⟨g + 1 + 1, 5, none⟩ (.int .i64 r.timer)) := (((((((Touch.refl _ (w2.setCell ⟨g + 1, 1, none⟩ (.slice A3 L3.length c3))).st (S := (· = g + 1 + 1)) (u := .slice P.A1 r.sigs.length P.c1) (by exact rfl)).st (S := (· = g + 1 + 1)) (u := .slice A3 L3.length c3) (by exact rfl)).st (S := (· = g + 1 + 1)) (u := .bool r.begins) (by exact rfl)).st (S := (· = g + 1 + 1)) (u := .bool r.ends) (by exact rfl)).st (S := (· = g + 1 + 1)) (u := .int .i64 r.ms) (by exact rfl)).st (S := (· = g + 1 + 1)) (u := .int .i64 r.timer) (by exact rfl))
    have hbq3_2 : Blk (((((((w2.setCell ⟨g + 1, 1, none⟩ (.slice A3 L3.length c3)).setCell ⟨g + 1 + 1, 0, none⟩ (.slice P.A1 r.sigs.length P.c1)).setCell ⟨g + 1 + 1, 1, none⟩ (.slice A3 L3.length c3)).setCell ⟨g + 1 + 1, 2, none⟩ (.bool r.begins)).setCell ⟨g + 1 + 1, 3, none⟩ (.bool r.ends)).setCell ⟨g + 1 + 1, 4, none⟩ (.int .i64 r.ms)).setCell ⟨g + 1 + 1, 5, none⟩ (.int .i64 r.timer)) (g + 1 + 1) 90 [.slice P.A1 r.sigs.length P.c1, .slice A3 L3.length c3, .bool r.begins, .bool r.ends, .int .i64 r.ms, .int .i64 r.timer] := ((((((hoq3_1O.set 0 (.slice P.A1 r.sigs.length P.c1)).set 1 (.slice A3 L3.length c3)).set 2 (.bool r.begins)).set 3 (.bool r.ends)).set 4 (.int .i64 r.ms)).set 5 (.int .i64 r.timer))
    have hoq3_2C := htq3_2.blk hoq3_1C (by intro e; have e : g = g + 1 + 1 := e; omega)
    have hoq3_2R := htq3_2.blk hbq3_1 (by intro e; have e : g + 1 = g + 1 + 1 := e; omega)
    have hrq3_2 := hrq3_1.touch htq3_2 (fun k e => by have e : k = g + 1 + 1 := e; rw [e]; exact HGO.out)
    have hTq3_2 : Touch (OfAct K) w (((((((w2.setCell ⟨g + 1, 1, none⟩ (.slice A3 L3.length c3)).setCell ⟨g + 1 + 1, 0, none⟩ (.slice P.A1 r.sigs.length P.c1)).setCell ⟨g + 1 + 1, 1, none⟩ (.slice A3 L3.length c3)).setCell ⟨g + 1 + 1, 2, none⟩ (.bool r.begins)).setCell ⟨g + 1 + 1, 3, none⟩ (.bool r.ends)).setCell ⟨g + 1 + 1, 4, none⟩ (.int .i64 r.ms)).setCell ⟨g + 1 + 1, 5, none⟩ (.int .i64 r.timer)) := hTq3_1.trans htq3_2 (fun k _ e => by have e : k = g + 1 + 1 := e; intro hk; have := HLIM.out k hk; omega)
    clear xC0 fC0 xC1 fC1 xC2 fC2 xC3 fC3 xC4 fC4 xC5 fC5 xC6 fC6 xC7 fC7 xR0 fR0 xR1 fR1 xR2 fR2 xR3 fR3 xR4 fR4 xR5 fR5 xO0 fO0 xO1 fO1 xO2 fO2 xO3 fO3 xO4 fO4 xO5 fO5
    have HBC3 : Hid (Blk (((((((w2.setCell ⟨g + 1, 1, none⟩ (.slice A3 L3.length c3)).setCell ⟨g + 1 + 1, 0, none⟩ (.slice P.A1 r.sigs.length P.c1)).setCell ⟨g + 1 + 1, 1, none⟩ (.slice A3 L3.length c3)).setCell ⟨g + 1 + 1, 2, none⟩ (.bool r.begins)).setCell ⟨g + 1 + 1, 3, none⟩ (.bool r.ends)).setCell ⟨g + 1 + 1, 4, none⟩ (.int .i64 r.ms)).setCell ⟨g + 1 + 1, 5, none⟩ (.int .i64 r.timer)) (g) 59 [.int .i64 s.most, .int .i64 s.credit, .int .i64 s.state, .int .i64 s.sq, .int .i64 s.peer, .int .i64 s.cc, .int .i64 s.ms, .string s.data]) := hoq3_2C
    have HBR3 : Hid (Blk (((((((w2.setCell ⟨g + 1, 1, none⟩ (.slice A3 L3.length c3)).setCell ⟨g + 1 + 1, 0, none⟩ (.slice P.A1 r.sigs.length P.c1)).setCell ⟨g + 1 + 1, 1, none⟩ (.slice A3 L3.length c3)).setCell ⟨g + 1 + 1, 2, none⟩ (.bool r.begins)).setCell ⟨g + 1 + 1, 3, none⟩ (.bool r.ends)).setCell ⟨g + 1 + 1, 4, none⟩ (.int .i64 r.ms)).setCell ⟨g + 1 + 1, 5, none⟩ (.int .i64 r.timer)) (g + 1) 90 [.slice P.A1 r.sigs.length P.c1, .slice A3 L3.length c3, .bool r.begins, .bool r.ends, .int .i64 r.ms, .int .i64 r.timer]) := hoq3_2R
    have HBO3 : Hid (Blk (((((((w2.setCell ⟨g + 1, 1, none⟩ (.slice A3 L3.length c3)).setCell ⟨g + 1 + 1, 0, none⟩ (.slice P.A1 r.sigs.length P.c1)).setCell ⟨g + 1 + 1, 1, none⟩ (.slice A3 L3.length c3)).setCell ⟨g + 1 + 1, 2, none⟩ (.bool r.begins)).setCell ⟨g + 1 + 1, 3, none⟩ (.bool r.ends)).setCell ⟨g + 1 + 1, 4, none⟩ (.int .i64 r.ms)).setCell ⟨g + 1 + 1, 5, none⟩ (.int .i64 r.timer)) (g + 1 + 1) 90 [.slice P.A1 r.sigs.length P.c1, .slice A3 L3.length c3, .bool r.begins, .bool r.ends, .int .i64 r.ms, .int .i64 r.timer]) := hbq3_2
    have HR3 := Lib.hid hrq3_2
    have HT3 : Hid (Touch (OfAct K) w (((((((w2.setCell ⟨g + 1, 1, none⟩ (.slice A3 L3.length c3)).setCell ⟨g + 1 + 1, 0, none⟩ (.slice P.A1 r.sigs.length P.c1)).setCell ⟨g + 1 + 1, 1, none⟩ (.slice A3 L3.length c3)).setCell ⟨g + 1 + 1, 2, none⟩ (.bool r.begins)).setCell ⟨g + 1 + 1, 3, none⟩ (.bool r.ends)).setCell ⟨g + 1 + 1, 4, none⟩ (.int .i64 r.ms)).setCell ⟨g + 1 + 1, 5, none⟩ (.int .i64 r.timer))) := hTq3_2
    clear HBC2 HBR2 HBO2 HR2 HT2 htq3_1 hbq3_1 hrq3_1 hTq3_1 hoq3_1C hoq3_1O htq3_2 hbq3_2 hrq3_2 hTq3_2 hoq3_2C hoq3_2R
    generalize (((((((w2.setCell ⟨g + 1, 1, none⟩ (.slice A3 L3.length c3)).setCell ⟨g + 1 + 1, 0, none⟩ (.slice P.A1 r.sigs.length P.c1)).setCell ⟨g + 1 + 1, 1, none⟩ (.slice A3 L3.length c3)).setCell ⟨g + 1 + 1, 2, none⟩ (.bool r.begins)).setCell ⟨g + 1 + 1, 3, none⟩ (.bool r.ends)).setCell ⟨g + 1 + 1, 4, none⟩ (.int .i64 r.ms)).setCell ⟨g + 1 + 1, 5, none⟩ (.int .i64 r.timer)) = w3 at *
    have HX : Hid (∀ e, e = .returned (.agg #[.slice P.A1 r.sigs.length P.c1, .slice A3 L3.length c3, .bool r.begins, .bool r.ends, .int .i64 r.ms, .int .i64 r.timer]) → RPost1 K (n + 1) ((Cn.out (s, r) (Cn.unit_ 2 sq self d)).2) w e w3) := fun e he => ⟨{ P with A2 := A3, c2 := c3 }, he.trans (by first | rfl | (show L3 = r.units ++ [Cn.crd s (Cn.unit_ 2 sq self d)]; rw [hL3.out, HM.out]) | (unfold Cn.out; simp only [HM.out, ← hL3.out]; rfl)), by (refine ((HR3.out.less HL.out).wide (by omega)).eq ?_ ?_ <;> first | rfl | (show L3 = r.units ++ [Cn.crd s (Cn.unit_ 2 sq self d)]; rw [hL3.out, HM.out]) | (unfold Cn.out; simp only [HM.out, ← hL3.out]; rfl)), HT3.out⟩
    have zO0 : w3.cell? ⟨g + 1 + 1, 0, none⟩ = some (.slice P.A1 r.sigs.length P.c1) := HBO3.out.cell 0
    have zO1 : w3.cell? ⟨g + 1 + 1, 1, none⟩ = some (.slice A3 L3.length c3) := HBO3.out.cell 1
    have zO2 : w3.cell? ⟨g + 1 + 1, 2, none⟩ = some (.bool r.begins) := HBO3.out.cell 2
    have zO3 : w3.cell? ⟨g + 1 + 1, 3, none⟩ = some (.bool r.ends) := HBO3.out.cell 3
    have zO4 : w3.cell? ⟨g + 1 + 1, 4, none⟩ = some (.int .i64 r.ms) := HBO3.out.cell 4
    have zO5 : w3.cell? ⟨g + 1 + 1, 5, none⟩ = some (.int .i64 r.timer) := HBO3.out.cell 5
    go_wp2
    exact bodyPost_ret (v := _) (by simp [results, Try.results67, go_sem, zO0, zO1, zO2, zO3, zO4, zO5]) rfl (HX.out _ rfl)
  by_cases e5 : kind = 5
  · subst e5
    have HM : Hid (Cn.crd s (Cn.unit_ 5 sq self d) = ⟨5, sq, s.credit, 0, 0, none, 0, 0, self, d⟩) := rfl
    go_wp2_with (first
      | (at_builtin
         refine app_runit rfl rfl (l := r.units) (l2 := [⟨5, sq, s.credit, 0, 0, none, 0, 0, self, d⟩]) rfl rfl (HR1.out.units.alloc _) (Sl.rd (Sl.lit runitE w1 _ rfl _ [⟨5, sq, s.credit, 0, 0, none, 0, 0, self, d⟩] rfl _ rfl (by decide))) (by simp; omega) ?_
         intro A3 c3 L3 w2 hL3 hs2 ht2 hA2
         obtain ⟨hr2, t2⟩ := HR1.out.sent ((Touch.refl _ w1).alloc _) hL3.out hs2 ht2 hA2
         have HBC2 := Lib.hid (t2.keptB HBC1.out HGC.out)
         have HBR2 := Lib.hid (t2.keptB HBR1.out HGR.out)
         have HBO2 := Lib.hid (t2.keptB HBO1.out HGO.out)
         have HR2 := Lib.hid hr2
         have HT2 : Hid (Touch (OfAct K) w w2) := HT1.out.trans (t2.loose HL.out) (fun _ _ e => e)
         clear hr2 t2 hs2 ht2 hA2 xC0 xC1 xC2 xC3 xC4 xC5 xC6 xC7 xR0 fR0 xR1 fR1 xR2 fR2 xR3 fR3 xR4 fR4 xR5 fR5 xO0 fO0 xO1 fO1 xO2 fO2 xO3 fO3 xO4 fO4 xO5 fO5
         have xC0 : w2.cell? ⟨g, 0, none⟩ = some (.int .i64 s.most) := HBC2.out.cell 0
         have fC0 := HBC2.out.frozen 0
         have xC1 : w2.cell? ⟨g, 1, none⟩ = some (.int .i64 s.credit) := HBC2.out.cell 1
         have fC1 := HBC2.out.frozen 1
         have xC2 : w2.cell? ⟨g, 2, none⟩ = some (.int .i64 s.state) := HBC2.out.cell 2
         have fC2 := HBC2.out.frozen 2
         have xC3 : w2.cell? ⟨g, 3, none⟩ = some (.int .i64 s.sq) := HBC2.out.cell 3
         have fC3 := HBC2.out.frozen 3
         have xC4 : w2.cell? ⟨g, 4, none⟩ = some (.int .i64 s.peer) := HBC2.out.cell 4
         have fC4 := HBC2.out.frozen 4
         have xC5 : w2.cell? ⟨g, 5, none⟩ = some (.int .i64 s.cc) := HBC2.out.cell 5
         have fC5 := HBC2.out.frozen 5
         have xC6 : w2.cell? ⟨g, 6, none⟩ = some (.int .i64 s.ms) := HBC2.out.cell 6
         have fC6 := HBC2.out.frozen 6
         have xC7 : w2.cell? ⟨g, 7, none⟩ = some (.string s.data) := HBC2.out.cell 7
         have fC7 := HBC2.out.frozen 7
         have xR0 : w2.cell? ⟨g + 1, 0, none⟩ = some (.slice P.A1 r.sigs.length P.c1) := HBR2.out.cell 0
         have fR0 := HBR2.out.frozen 0
         have xR1 : w2.cell? ⟨g + 1, 1, none⟩ = some (.slice P.A2 r.units.length P.c2) := HBR2.out.cell 1
         have fR1 := HBR2.out.frozen 1
         have xR2 : w2.cell? ⟨g + 1, 2, none⟩ = some (.bool r.begins) := HBR2.out.cell 2
         have fR2 := HBR2.out.frozen 2
         have xR3 : w2.cell? ⟨g + 1, 3, none⟩ = some (.bool r.ends) := HBR2.out.cell 3
         have fR3 := HBR2.out.frozen 3
         have xR4 : w2.cell? ⟨g + 1, 4, none⟩ = some (.int .i64 r.ms) := HBR2.out.cell 4
         have fR4 := HBR2.out.frozen 4
         have xR5 : w2.cell? ⟨g + 1, 5, none⟩ = some (.int .i64 r.timer) := HBR2.out.cell 5
         have fR5 := HBR2.out.frozen 5
         have xO0 : w2.cell? ⟨g + 1 + 1, 0, none⟩ = some (.slice none 0 0) := HBO2.out.cell 0
         have fO0 := HBO2.out.frozen 0
         have xO1 : w2.cell? ⟨g + 1 + 1, 1, none⟩ = some (.slice none 0 0) := HBO2.out.cell 1
         have fO1 := HBO2.out.frozen 1
         have xO2 : w2.cell? ⟨g + 1 + 1, 2, none⟩ = some (.bool false) := HBO2.out.cell 2
         have fO2 := HBO2.out.frozen 2
         have xO3 : w2.cell? ⟨g + 1 + 1, 3, none⟩ = some (.bool false) := HBO2.out.cell 3
         have fO3 := HBO2.out.frozen 3
         have xO4 : w2.cell? ⟨g + 1 + 1, 4, none⟩ = some (.int .i64 0) := HBO2.out.cell 4
         have fO4 := HBO2.out.frozen 4
         have xO5 : w2.cell? ⟨g + 1 + 1, 5, none⟩ = some (.int .i64 0) := HBO2.out.cell 5
         have fO5 := HBO2.out.frozen 5))
    have htq3_1 : Touch (· = g + 1) w2 (w2.setCell ⟨g + 1, 1, none⟩ (.slice A3 L3.length c3)) := ((Touch.refl _ w2).st (S := (· = g + 1)) (u := .slice A3 L3.length c3) (by exact rfl))
    have hbq3_1 : Blk (w2.setCell ⟨g + 1, 1, none⟩ (.slice A3 L3.length c3)) (g + 1) 90 [.slice P.A1 r.sigs.length P.c1, .slice A3 L3.length c3, .bool r.begins, .bool r.ends, .int .i64 r.ms, .int .i64 r.timer] := (HBR2.out.set 1 (.slice A3 L3.length c3))
    have hoq3_1C := htq3_1.blk HBC2.out (by intro e; have e : g = g + 1 := e; omega)
    have hoq3_1O := htq3_1.blk HBO2.out (by intro e; have e : g + 1 + 1 = g + 1 := e; omega)
    have hrq3_1 := HR2.out.touch htq3_1 (fun k e => by have e : k = g + 1 := e; rw [e]; exact HGR.out)
    have hTq3_1 : Touch (OfAct K) w (w2.setCell ⟨g + 1, 1, none⟩ (.slice A3 L3.length c3)) := HT2.out.trans htq3_1 (fun k _ e => by have e : k = g + 1 := e; intro hk; have := HLIM.out k hk; omega)
    obtain ⟨w3, q0⟩ : ∃ x : World, x = (((((((w2.setCell ⟨g + 1, 1, none⟩ (.slice A3 L3.length c3)).setCell ⟨g + 1 + 1, 0, none⟩ (.slice P.A1 r.sigs.length P.c1)).setCell ⟨g + 1 + 1, 1, none⟩ (.slice A3 L3.length c3)).setCell ⟨g + 1 + 1, 2, none⟩ (.bool r.begins)).setCell ⟨g + 1 + 1, 3, none⟩ (.bool r.ends)).setCell ⟨g + 1 + 1, 4, none⟩ (.int .i64 r.ms)).setCell ⟨g + 1 + 1, 5, none⟩ (.int .i64 r.timer)) := ⟨_, rfl⟩
    have q_w3 := Lib.hid q0
    clear q0
    have htq3_2 : Touch (· = g + 1 + 1) (w2.setCell ⟨g + 1, 1, none⟩ (.slice A3 L3.length c3)) w3 := by rw [q_w3.out]; exact (((((((Touch.refl _ (w2.setCell ⟨g + 1, 1, none⟩ (.slice A3 L3.length c3))).st (S := (· = g + 1 + 1)) (u := .slice P.A1 r.sigs.length P.c1) (by exact rfl)).st (S := (· = g + 1 + 1)) (u := .slice A3 L3.length c3) (by exact rfl)).st (S := (· = g + 1 + 1)) (u := .bool r.begins) (by exact rfl)).st (S := (· = g + 1 + 1)) (u := .bool r.ends) (by exact rfl)).st (S := (· = g + 1 + 1)) (u := .int .i64 r.ms) (by exact rfl)).st (S := (· = g + 1 + 1)) (u := .int .i64 r.timer) (by exact rfl))
    have hbq3_2 : Blk w3 (g + 1 + 1) 90 [.slice P.A1 r.sigs.length P.c1, .slice A3 L3.length c3, .bool r.begins, .bool r.ends, .int .i64 r.ms, .int .i64 r.timer] := by rw [q_w3.out]; exact ((((((hoq3_1O.set 0 (.slice P.A1 r.sigs.length P.c1)).set 1 (.slice A3 L3.length c3)).set 2 (.bool r.begins)).set 3 (.bool r.ends)).set 4 (.int .i64 r.ms)).set 5 (.int .i64 r.timer))
    have hoq3_2C := htq3_2.blk hoq3_1C (by intro e; have e : g = g + 1 + 1 := e; omega)
    have hoq3_2R := htq3_2.blk hbq3_1 (by intro e; have e : g + 1 = g + 1 + 1 := e; omega)
    have hrq3_2 := hrq3_1.touch htq3_2 (fun k e => by have e : k = g + 1 + 1 := e; rw [e]; exact HGO.out)
    have hTq3_2 : Touch (OfAct K) w w3 := hTq3_1.trans htq3_2 (fun k _ e => by have e : k = g + 1 + 1 := e; intro hk; have := HLIM.out k hk; omega)
    clear xC0 fC0 xC1 fC1 xC2 fC2 xC3 fC3 xC4 fC4 xC5 fC5 xC6 fC6 xC7 fC7 xR0 fR0 xR1 fR1 xR2 fR2 xR3 fR3 xR4 fR4 xR5 fR5 xO0 fO0 xO1 fO1 xO2 fO2 xO3 fO3 xO4 fO4 xO5 fO5
    have HBC3 : Hid (Blk w3 (g) 59 [.int .i64 s.most, .int .i64 s.credit, .int .i64 s.state, .int .i64 s.sq, .int .i64 s.peer, .int .i64 s.cc, .int .i64 s.ms, .string s.data]) := hoq3_2C
    have HBR3 : Hid (Blk w3 (g + 1) 90 [.slice P.A1 r.sigs.length P.c1, .slice A3 L3.length c3, .bool r.begins, .bool r.ends, .int .i64 r.ms, .int .i64 r.timer]) := hoq3_2R
    have HBO3 : Hid (Blk w3 (g + 1 + 1) 90 [.slice P.A1 r.sigs.length P.c1, .slice A3 L3.length c3, .bool r.begins, .bool r.ends, .int .i64 r.ms, .int .i64 r.timer]) := hbq3_2
    have HR3 := Lib.hid hrq3_2
    have HT3 : Hid (Touch (OfAct K) w w3) := hTq3_2
    clear HBC2 HBR2 HBO2 HR2 HT2 htq3_1 hbq3_1 hrq3_1 hTq3_1 hoq3_1C hoq3_1O htq3_2 hbq3_2 hrq3_2 hTq3_2 hoq3_2C hoq3_2R
    rw [← q_w3.out]
    clear q_w3
    have HX : Hid (∀ e, e = .returned (.agg #[.slice P.A1 r.sigs.length P.c1, .slice A3 L3.length c3, .bool r.begins, .bool r.ends, .int .i64 r.ms, .int .i64 r.timer]) → RPost1 K (n + 1) ((Cn.out (s, r) (Cn.unit_ 5 sq self d)).2) w e w3) := fun e he => ⟨{ P with A2 := A3, c2 := c3 }, he.trans (by first | rfl | (show L3 = r.units ++ [Cn.crd s (Cn.unit_ 5 sq self d)]; rw [hL3.out, HM.out]) | (unfold Cn.out; simp only [HM.out, ← hL3.out]; rfl)), by (refine ((HR3.out.less HL.out).wide (by omega)).eq ?_ ?_ <;> first | rfl | (show L3 = r.units ++ [Cn.crd s (Cn.unit_ 5 sq self d)]; rw [hL3.out, HM.out]) | (unfold Cn.out; simp only [HM.out, ← hL3.out]; rfl)), HT3.out⟩
    have zO0 : w3.cell? ⟨g + 1 + 1, 0, none⟩ = some (.slice P.A1 r.sigs.length P.c1) := HBO3.out.cell 0
    have zO1 : w3.cell? ⟨g + 1 + 1, 1, none⟩ = some (.slice A3 L3.length c3) := HBO3.out.cell 1
    have zO2 : w3.cell? ⟨g + 1 + 1, 2, none⟩ = some (.bool r.begins) := HBO3.out.cell 2
    have zO3 : w3.cell? ⟨g + 1 + 1, 3, none⟩ = some (.bool r.ends) := HBO3.out.cell 3
    have zO4 : w3.cell? ⟨g + 1 + 1, 4, none⟩ = some (.int .i64 r.ms) := HBO3.out.cell 4
    have zO5 : w3.cell? ⟨g + 1 + 1, 5, none⟩ = some (.int .i64 r.timer) := HBO3.out.cell 5
    go_wp2
    exact bodyPost_ret (v := _) (by simp [results, Try.results67, go_sem, zO0, zO1, zO2, zO3, zO4, zO5]) rfl (HX.out _ rfl)
  by_cases e6 : kind = 6
  · subst e6
    have HM : Hid (Cn.crd s (Cn.unit_ 6 sq self d) = ⟨6, sq, s.credit, 0, 0, none, 0, 0, self, d⟩) := rfl
    go_wp2_with (first
      | (at_builtin
         refine app_runit rfl rfl (l := r.units) (l2 := [⟨6, sq, s.credit, 0, 0, none, 0, 0, self, d⟩]) rfl rfl (HR1.out.units.alloc _) (Sl.rd (Sl.lit runitE w1 _ rfl _ [⟨6, sq, s.credit, 0, 0, none, 0, 0, self, d⟩] rfl _ rfl (by decide))) (by simp; omega) ?_
         intro A3 c3 L3 w2 hL3 hs2 ht2 hA2
         obtain ⟨hr2, t2⟩ := HR1.out.sent ((Touch.refl _ w1).alloc _) hL3.out hs2 ht2 hA2
         have HBC2 := Lib.hid (t2.keptB HBC1.out HGC.out)
         have HBR2 := Lib.hid (t2.keptB HBR1.out HGR.out)
         have HBO2 := Lib.hid (t2.keptB HBO1.out HGO.out)
         have HR2 := Lib.hid hr2
         have HT2 : Hid (Touch (OfAct K) w w2) := HT1.out.trans (t2.loose HL.out) (fun _ _ e => e)
         clear hr2 t2 hs2 ht2 hA2 xC0 xC1 xC2 xC3 xC4 xC5 xC6 xC7 xR0 fR0 xR1 fR1 xR2 fR2 xR3 fR3 xR4 fR4 xR5 fR5 xO0 fO0 xO1 fO1 xO2 fO2 xO3 fO3 xO4 fO4 xO5 fO5
         have xC0 : w2.cell? ⟨g, 0, none⟩ = some (.int .i64 s.most) := HBC2.out.cell 0
         have fC0 := HBC2.out.frozen 0
         have xC1 : w2.cell? ⟨g, 1, none⟩ = some (.int .i64 s.credit) := HBC2.out.cell 1
         have fC1 := HBC2.out.frozen 1
         have xC2 : w2.cell? ⟨g, 2, none⟩ = some (.int .i64 s.state) := HBC2.out.cell 2
         have fC2 := HBC2.out.frozen 2
         have xC3 : w2.cell? ⟨g, 3, none⟩ = some (.int .i64 s.sq) := HBC2.out.cell 3
         have fC3 := HBC2.out.frozen 3
         have xC4 : w2.cell? ⟨g, 4, none⟩ = some (.int .i64 s.peer) := HBC2.out.cell 4
         have fC4 := HBC2.out.frozen 4
         have xC5 : w2.cell? ⟨g, 5, none⟩ = some (.int .i64 s.cc) := HBC2.out.cell 5
         have fC5 := HBC2.out.frozen 5
         have xC6 : w2.cell? ⟨g, 6, none⟩ = some (.int .i64 s.ms) := HBC2.out.cell 6
         have fC6 := HBC2.out.frozen 6
         have xC7 : w2.cell? ⟨g, 7, none⟩ = some (.string s.data) := HBC2.out.cell 7
         have fC7 := HBC2.out.frozen 7
         have xR0 : w2.cell? ⟨g + 1, 0, none⟩ = some (.slice P.A1 r.sigs.length P.c1) := HBR2.out.cell 0
         have fR0 := HBR2.out.frozen 0
         have xR1 : w2.cell? ⟨g + 1, 1, none⟩ = some (.slice P.A2 r.units.length P.c2) := HBR2.out.cell 1
         have fR1 := HBR2.out.frozen 1
         have xR2 : w2.cell? ⟨g + 1, 2, none⟩ = some (.bool r.begins) := HBR2.out.cell 2
         have fR2 := HBR2.out.frozen 2
         have xR3 : w2.cell? ⟨g + 1, 3, none⟩ = some (.bool r.ends) := HBR2.out.cell 3
         have fR3 := HBR2.out.frozen 3
         have xR4 : w2.cell? ⟨g + 1, 4, none⟩ = some (.int .i64 r.ms) := HBR2.out.cell 4
         have fR4 := HBR2.out.frozen 4
         have xR5 : w2.cell? ⟨g + 1, 5, none⟩ = some (.int .i64 r.timer) := HBR2.out.cell 5
         have fR5 := HBR2.out.frozen 5
         have xO0 : w2.cell? ⟨g + 1 + 1, 0, none⟩ = some (.slice none 0 0) := HBO2.out.cell 0
         have fO0 := HBO2.out.frozen 0
         have xO1 : w2.cell? ⟨g + 1 + 1, 1, none⟩ = some (.slice none 0 0) := HBO2.out.cell 1
         have fO1 := HBO2.out.frozen 1
         have xO2 : w2.cell? ⟨g + 1 + 1, 2, none⟩ = some (.bool false) := HBO2.out.cell 2
         have fO2 := HBO2.out.frozen 2
         have xO3 : w2.cell? ⟨g + 1 + 1, 3, none⟩ = some (.bool false) := HBO2.out.cell 3
         have fO3 := HBO2.out.frozen 3
         have xO4 : w2.cell? ⟨g + 1 + 1, 4, none⟩ = some (.int .i64 0) := HBO2.out.cell 4
         have fO4 := HBO2.out.frozen 4
         have xO5 : w2.cell? ⟨g + 1 + 1, 5, none⟩ = some (.int .i64 0) := HBO2.out.cell 5
         have fO5 := HBO2.out.frozen 5))
    have htq3_1 : Touch (· = g + 1) w2 (w2.setCell ⟨g + 1, 1, none⟩ (.slice A3 L3.length c3)) := ((Touch.refl _ w2).st (S := (· = g + 1)) (u := .slice A3 L3.length c3) (by exact rfl))
    have hbq3_1 : Blk (w2.setCell ⟨g + 1, 1, none⟩ (.slice A3 L3.length c3)) (g + 1) 90 [.slice P.A1 r.sigs.length P.c1, .slice A3 L3.length c3, .bool r.begins, .bool r.ends, .int .i64 r.ms, .int .i64 r.timer] := (HBR2.out.set 1 (.slice A3 L3.length c3))
    have hoq3_1C := htq3_1.blk HBC2.out (by intro e; have e : g = g + 1 := e; omega)
    have hoq3_1O := htq3_1.blk HBO2.out (by intro e; have e : g + 1 + 1 = g + 1 := e; omega)
    have hrq3_1 := HR2.out.touch htq3_1 (fun k e => by have e : k = g + 1 := e; rw [e]; exact HGR.out)
    have hTq3_1 : Touch (OfAct K) w (w2.setCell ⟨g + 1, 1, none⟩ (.slice A3 L3.length c3)) := HT2.out.trans htq3_1 (fun k _ e => by have e : k = g + 1 := e; intro hk; have := HLIM.out k hk; omega)
    have htq3_2 : Touch (· = g + 1 + 1) (w2.setCell ⟨g + 1, 1, none⟩ (.slice A3 L3.length c3)) (((((((w2.setCell ⟨g + 1, 1, none⟩ (.slice A3 L3.length c3)).setCell ⟨g + 1 + 1, 0, none⟩ (.slice P.A1 r.sigs.length P.c1)).setCell ⟨g + 1 + 1, 1, none⟩ (.slice A3 L3.length c3)).setCell ⟨g + 1 + 1, 2, none⟩ (.bool r.begins)).setCell ⟨g + 1 + 1, 3, none⟩ (.bool r.ends)).setCell ⟨g + 1 + 1, 4, none⟩ (.int .i64 r.ms)).setCell ⟨g + 1 + 1, 5, none⟩ (.int .i64 r.timer)) := (((((((Touch.refl _ (w2.setCell ⟨g + 1, 1, none⟩ (.slice A3 L3.length c3))).st (S := (· = g + 1 + 1)) (u := .slice P.A1 r.sigs.length P.c1) (by exact rfl)).st (S := (· = g + 1 + 1)) (u := .slice A3 L3.length c3) (by exact rfl)).st (S := (· = g + 1 + 1)) (u := .bool r.begins) (by exact rfl)).st (S := (· = g + 1 + 1)) (u := .bool r.ends) (by exact rfl)).st (S := (· = g + 1 + 1)) (u := .int .i64 r.ms) (by exact rfl)).st (S := (· = g + 1 + 1)) (u := .int .i64 r.timer) (by exact rfl))
    have hbq3_2 : Blk (((((((w2.setCell ⟨g + 1, 1, none⟩ (.slice A3 L3.length c3)).setCell ⟨g + 1 + 1, 0, none⟩ (.slice P.A1 r.sigs.length P.c1)).setCell ⟨g + 1 + 1, 1, none⟩ (.slice A3 L3.length c3)).setCell ⟨g + 1 + 1, 2, none⟩ (.bool r.begins)).setCell ⟨g + 1 + 1, 3, none⟩ (.bool r.ends)).setCell ⟨g + 1 + 1, 4, none⟩ (.int .i64 r.ms)).setCell ⟨g + 1 + 1, 5, none⟩ (.int .i64 r.timer)) (g + 1 + 1) 90 [.slice P.A1 r.sigs.length P.c1, .slice A3 L3.length c3, .bool r.begins, .bool r.ends, .int .i64 r.ms, .int .i64 r.timer] := ((((((hoq3_1O.set 0 (.slice P.A1 r.sigs.length P.c1)).set 1 (.slice A3 L3.length c3)).set 2 (.bool r.begins)).set 3 (.bool r.ends)).set 4 (.int .i64 r.ms)).set 5 (.int .i64 r.timer))
    have hoq3_2C := htq3_2.blk hoq3_1C (by intro e; have e : g = g + 1 + 1 := e; omega)
    have hoq3_2R := htq3_2.blk hbq3_1 (by intro e; have e : g + 1 = g + 1 + 1 := e; omega)
    have hrq3_2 := hrq3_1.touch htq3_2 (fun k e => by have e : k = g + 1 + 1 := e; rw [e]; exact HGO.out)
    have hTq3_2 : Touch (OfAct K) w (((((((w2.setCell ⟨g + 1, 1, none⟩ (.slice A3 L3.length c3)).setCell ⟨g + 1 + 1, 0, none⟩ (.slice P.A1 r.sigs.length P.c1)).setCell ⟨g + 1 + 1, 1, none⟩ (.slice A3 L3.length c3)).setCell ⟨g + 1 + 1, 2, none⟩ (.bool r.begins)).setCell ⟨g + 1 + 1, 3, none⟩ (.bool r.ends)).setCell ⟨g + 1 + 1, 4, none⟩ (.int .i64 r.ms)).setCell ⟨g + 1 + 1, 5, none⟩ (.int .i64 r.timer)) := hTq3_1.trans htq3_2 (fun k _ e => by have e : k = g + 1 + 1 := e; intro hk; have := HLIM.out k hk; omega)
    clear xC0 fC0 xC1 fC1 xC2 fC2 xC3 fC3 xC4 fC4 xC5 fC5 xC6 fC6 xC7 fC7 xR0 fR0 xR1 fR1 xR2 fR2 xR3 fR3 xR4 fR4 xR5 fR5 xO0 fO0 xO1 fO1 xO2 fO2 xO3 fO3 xO4 fO4 xO5 fO5
    have HBC3 : Hid (Blk (((((((w2.setCell ⟨g + 1, 1, none⟩ (.slice A3 L3.length c3)).setCell ⟨g + 1 + 1, 0, none⟩ (.slice P.A1 r.sigs.length P.c1)).setCell ⟨g + 1 + 1, 1, none⟩ (.slice A3 L3.length c3)).setCell ⟨g + 1 + 1, 2, none⟩ (.bool r.begins)).setCell ⟨g + 1 + 1, 3, none⟩ (.bool r.ends)).setCell ⟨g + 1 + 1, 4, none⟩ (.int .i64 r.ms)).setCell ⟨g + 1 + 1, 5, none⟩ (.int .i64 r.timer)) (g) 59 [.int .i64 s.most, .int .i64 s.credit, .int .i64 s.state, .int .i64 s.sq, .int .i64 s.peer, .int .i64 s.cc, .int .i64 s.ms, .string s.data]) := hoq3_2C
    have HBR3 : Hid (Blk (((((((w2.setCell ⟨g + 1, 1, none⟩ (.slice A3 L3.length c3)).setCell ⟨g + 1 + 1, 0, none⟩ (.slice P.A1 r.sigs.length P.c1)).setCell ⟨g + 1 + 1, 1, none⟩ (.slice A3 L3.length c3)).setCell ⟨g + 1 + 1, 2, none⟩ (.bool r.begins)).setCell ⟨g + 1 + 1, 3, none⟩ (.bool r.ends)).setCell ⟨g + 1 + 1, 4, none⟩ (.int .i64 r.ms)).setCell ⟨g + 1 + 1, 5, none⟩ (.int .i64 r.timer)) (g + 1) 90 [.slice P.A1 r.sigs.length P.c1, .slice A3 L3.length c3, .bool r.begins, .bool r.ends, .int .i64 r.ms, .int .i64 r.timer]) := hoq3_2R
    have HBO3 : Hid (Blk (((((((w2.setCell ⟨g + 1, 1, none⟩ (.slice A3 L3.length c3)).setCell ⟨g + 1 + 1, 0, none⟩ (.slice P.A1 r.sigs.length P.c1)).setCell ⟨g + 1 + 1, 1, none⟩ (.slice A3 L3.length c3)).setCell ⟨g + 1 + 1, 2, none⟩ (.bool r.begins)).setCell ⟨g + 1 + 1, 3, none⟩ (.bool r.ends)).setCell ⟨g + 1 + 1, 4, none⟩ (.int .i64 r.ms)).setCell ⟨g + 1 + 1, 5, none⟩ (.int .i64 r.timer)) (g + 1 + 1) 90 [.slice P.A1 r.sigs.length P.c1, .slice A3 L3.length c3, .bool r.begins, .bool r.ends, .int .i64 r.ms, .int .i64 r.timer]) := hbq3_2
    have HR3 := Lib.hid hrq3_2
    have HT3 : Hid (Touch (OfAct K) w (((((((w2.setCell ⟨g + 1, 1, none⟩ (.slice A3 L3.length c3)).setCell ⟨g + 1 + 1, 0, none⟩ (.slice P.A1 r.sigs.length P.c1)).setCell ⟨g + 1 + 1, 1, none⟩ (.slice A3 L3.length c3)).setCell ⟨g + 1 + 1, 2, none⟩ (.bool r.begins)).setCell ⟨g + 1 + 1, 3, none⟩ (.bool r.ends)).setCell ⟨g + 1 + 1, 4, none⟩ (.int .i64 r.ms)).setCell ⟨g + 1 + 1, 5, none⟩ (.int .i64 r.timer))) := hTq3_2
    clear HBC2 HBR2 HBO2 HR2 HT2 htq3_1 hbq3_1 hrq3_1 hTq3_1 hoq3_1C hoq3_1O htq3_2 hbq3_2 hrq3_2 hTq3_2 hoq3_2C hoq3_2R
    generalize (((((((w2.setCell ⟨g + 1, 1, none⟩ (.slice A3 L3.length c3)).setCell ⟨g + 1 + 1, 0, none⟩ (.slice P.A1 r.sigs.length P.c1)).setCell ⟨g + 1 + 1, 1, none⟩ (.slice A3 L3.length c3)).setCell ⟨g + 1 + 1, 2, none⟩ (.bool r.begins)).setCell ⟨g + 1 + 1, 3, none⟩ (.bool r.ends)).setCell ⟨g + 1 + 1, 4, none⟩ (.int .i64 r.ms)).setCell ⟨g + 1 + 1, 5, none⟩ (.int .i64 r.timer)) = w3 at *
    have HX : Hid (∀ e, e = .returned (.agg #[.slice P.A1 r.sigs.length P.c1, .slice A3 L3.length c3, .bool r.begins, .bool r.ends, .int .i64 r.ms, .int .i64 r.timer]) → RPost1 K (n + 1) ((Cn.out (s, r) (Cn.unit_ 6 sq self d)).2) w e w3) := fun e he => ⟨{ P with A2 := A3, c2 := c3 }, he.trans (by first | rfl | (show L3 = r.units ++ [Cn.crd s (Cn.unit_ 6 sq self d)]; rw [hL3.out, HM.out]) | (unfold Cn.out; simp only [HM.out, ← hL3.out]; rfl)), by (refine ((HR3.out.less HL.out).wide (by omega)).eq ?_ ?_ <;> first | rfl | (show L3 = r.units ++ [Cn.crd s (Cn.unit_ 6 sq self d)]; rw [hL3.out, HM.out]) | (unfold Cn.out; simp only [HM.out, ← hL3.out]; rfl)), HT3.out⟩
    have zO0 : w3.cell? ⟨g + 1 + 1, 0, none⟩ = some (.slice P.A1 r.sigs.length P.c1) := HBO3.out.cell 0
    have zO1 : w3.cell? ⟨g + 1 + 1, 1, none⟩ = some (.slice A3 L3.length c3) := HBO3.out.cell 1
    have zO2 : w3.cell? ⟨g + 1 + 1, 2, none⟩ = some (.bool r.begins) := HBO3.out.cell 2
    have zO3 : w3.cell? ⟨g + 1 + 1, 3, none⟩ = some (.bool r.ends) := HBO3.out.cell 3
    have zO4 : w3.cell? ⟨g + 1 + 1, 4, none⟩ = some (.int .i64 r.ms) := HBO3.out.cell 4
    have zO5 : w3.cell? ⟨g + 1 + 1, 5, none⟩ = some (.int .i64 r.timer) := HBO3.out.cell 5
    go_wp2
    exact bodyPost_ret (v := _) (by simp [results, Try.results67, go_sem, zO0, zO1, zO2, zO3, zO4, zO5]) rfl (HX.out _ rfl)
  by_cases e9 : kind = 9
  · subst e9
    have HM : Hid (Cn.crd s (Cn.unit_ 9 sq self d) = ⟨9, sq, s.credit, 0, 0, none, 0, 0, self, d⟩) := rfl
    go_wp2_with (first
      | (at_builtin
         refine app_runit rfl rfl (l := r.units) (l2 := [⟨9, sq, s.credit, 0, 0, none, 0, 0, self, d⟩]) rfl rfl (HR1.out.units.alloc _) (Sl.rd (Sl.lit runitE w1 _ rfl _ [⟨9, sq, s.credit, 0, 0, none, 0, 0, self, d⟩] rfl _ rfl (by decide))) (by simp; omega) ?_
         intro A3 c3 L3 w2 hL3 hs2 ht2 hA2
         obtain ⟨hr2, t2⟩ := HR1.out.sent ((Touch.refl _ w1).alloc _) hL3.out hs2 ht2 hA2
         have HBC2 := Lib.hid (t2.keptB HBC1.out HGC.out)
         have HBR2 := Lib.hid (t2.keptB HBR1.out HGR.out)
         have HBO2 := Lib.hid (t2.keptB HBO1.out HGO.out)
         have HR2 := Lib.hid hr2
         have HT2 : Hid (Touch (OfAct K) w w2) := HT1.out.trans (t2.loose HL.out) (fun _ _ e => e)
         clear hr2 t2 hs2 ht2 hA2 xC0 xC1 xC2 xC3 xC4 xC5 xC6 xC7 xR0 fR0 xR1 fR1 xR2 fR2 xR3 fR3 xR4 fR4 xR5 fR5 xO0 fO0 xO1 fO1 xO2 fO2 xO3 fO3 xO4 fO4 xO5 fO5
         have xC0 : w2.cell? ⟨g, 0, none⟩ = some (.int .i64 s.most) := HBC2.out.cell 0
         have fC0 := HBC2.out.frozen 0
         have xC1 : w2.cell? ⟨g, 1, none⟩ = some (.int .i64 s.credit) := HBC2.out.cell 1
         have fC1 := HBC2.out.frozen 1
         have xC2 : w2.cell? ⟨g, 2, none⟩ = some (.int .i64 s.state) := HBC2.out.cell 2
         have fC2 := HBC2.out.frozen 2
         have xC3 : w2.cell? ⟨g, 3, none⟩ = some (.int .i64 s.sq) := HBC2.out.cell 3
         have fC3 := HBC2.out.frozen 3
         have xC4 : w2.cell? ⟨g, 4, none⟩ = some (.int .i64 s.peer) := HBC2.out.cell 4
         have fC4 := HBC2.out.frozen 4
         have xC5 : w2.cell? ⟨g, 5, none⟩ = some (.int .i64 s.cc) := HBC2.out.cell 5
         have fC5 := HBC2.out.frozen 5
         have xC6 : w2.cell? ⟨g, 6, none⟩ = some (.int .i64 s.ms) := HBC2.out.cell 6
         have fC6 := HBC2.out.frozen 6
         have xC7 : w2.cell? ⟨g, 7, none⟩ = some (.string s.data) := HBC2.out.cell 7
         have fC7 := HBC2.out.frozen 7
         have xR0 : w2.cell? ⟨g + 1, 0, none⟩ = some (.slice P.A1 r.sigs.length P.c1) := HBR2.out.cell 0
         have fR0 := HBR2.out.frozen 0
         have xR1 : w2.cell? ⟨g + 1, 1, none⟩ = some (.slice P.A2 r.units.length P.c2) := HBR2.out.cell 1
         have fR1 := HBR2.out.frozen 1
         have xR2 : w2.cell? ⟨g + 1, 2, none⟩ = some (.bool r.begins) := HBR2.out.cell 2
         have fR2 := HBR2.out.frozen 2
         have xR3 : w2.cell? ⟨g + 1, 3, none⟩ = some (.bool r.ends) := HBR2.out.cell 3
         have fR3 := HBR2.out.frozen 3
         have xR4 : w2.cell? ⟨g + 1, 4, none⟩ = some (.int .i64 r.ms) := HBR2.out.cell 4
         have fR4 := HBR2.out.frozen 4
         have xR5 : w2.cell? ⟨g + 1, 5, none⟩ = some (.int .i64 r.timer) := HBR2.out.cell 5
         have fR5 := HBR2.out.frozen 5
         have xO0 : w2.cell? ⟨g + 1 + 1, 0, none⟩ = some (.slice none 0 0) := HBO2.out.cell 0
         have fO0 := HBO2.out.frozen 0
         have xO1 : w2.cell? ⟨g + 1 + 1, 1, none⟩ = some (.slice none 0 0) := HBO2.out.cell 1
         have fO1 := HBO2.out.frozen 1
         have xO2 : w2.cell? ⟨g + 1 + 1, 2, none⟩ = some (.bool false) := HBO2.out.cell 2
         have fO2 := HBO2.out.frozen 2
         have xO3 : w2.cell? ⟨g + 1 + 1, 3, none⟩ = some (.bool false) := HBO2.out.cell 3
         have fO3 := HBO2.out.frozen 3
         have xO4 : w2.cell? ⟨g + 1 + 1, 4, none⟩ = some (.int .i64 0) := HBO2.out.cell 4
         have fO4 := HBO2.out.frozen 4
         have xO5 : w2.cell? ⟨g + 1 + 1, 5, none⟩ = some (.int .i64 0) := HBO2.out.cell 5
         have fO5 := HBO2.out.frozen 5))
    have htq3_1 : Touch (· = g + 1) w2 (w2.setCell ⟨g + 1, 1, none⟩ (.slice A3 L3.length c3)) := ((Touch.refl _ w2).st (S := (· = g + 1)) (u := .slice A3 L3.length c3) (by exact rfl))
    have hbq3_1 : Blk (w2.setCell ⟨g + 1, 1, none⟩ (.slice A3 L3.length c3)) (g + 1) 90 [.slice P.A1 r.sigs.length P.c1, .slice A3 L3.length c3, .bool r.begins, .bool r.ends, .int .i64 r.ms, .int .i64 r.timer] := (HBR2.out.set 1 (.slice A3 L3.length c3))
    have hoq3_1C := htq3_1.blk HBC2.out (by intro e; have e : g = g + 1 := e; omega)
    have hoq3_1O := htq3_1.blk HBO2.out (by intro e; have e : g + 1 + 1 = g + 1 := e; omega)
    have hrq3_1 := HR2.out.touch htq3_1 (fun k e => by have e : k = g + 1 := e; rw [e]; exact HGR.out)
    have hTq3_1 : Touch (OfAct K) w (w2.setCell ⟨g + 1, 1, none⟩ (.slice A3 L3.length c3)) := HT2.out.trans htq3_1 (fun k _ e => by have e : k = g + 1 := e; intro hk; have := HLIM.out k hk; omega)
    obtain ⟨w3, q0⟩ : ∃ x : World, x = (((((((w2.setCell ⟨g + 1, 1, none⟩ (.slice A3 L3.length c3)).setCell ⟨g + 1 + 1, 0, none⟩ (.slice P.A1 r.sigs.length P.c1)).setCell ⟨g + 1 + 1, 1, none⟩ (.slice A3 L3.length c3)).setCell ⟨g + 1 + 1, 2, none⟩ (.bool r.begins)).setCell ⟨g + 1 + 1, 3, none⟩ (.bool r.ends)).setCell ⟨g + 1 + 1, 4, none⟩ (.int .i64 r.ms)).setCell ⟨g + 1 + 1, 5, none⟩ (.int .i64 r.timer)) := ⟨_, rfl⟩
    have q_w3 := Lib.hid q0
    clear q0
    have htq3_2 : Touch (· = g + 1 + 1) (w2.setCell ⟨g + 1, 1, none⟩ (.slice A3 L3.length c3)) w3 := by rw [q_w3.out]; exact (((((((Touch.refl _ (w2.setCell ⟨g + 1, 1, none⟩ (.slice A3 L3.length c3))).st (S := (· = g + 1 + 1)) (u := .slice P.A1 r.sigs.length P.c1) (by exact rfl)).st (S := (· = g + 1 + 1)) (u := .slice A3 L3.length c3) (by exact rfl)).st (S := (· = g + 1 + 1)) (u := .bool r.begins) (by exact rfl)).st (S := (· = g + 1 + 1)) (u := .bool r.ends) (by exact rfl)).st (S := (· = g + 1 + 1)) (u := .int .i64 r.ms) (by exact rfl)).st (S := (· = g + 1 + 1)) (u := .int .i64 r.timer) (by exact rfl))
    have hbq3_2 : Blk w3 (g + 1 + 1) 90 [.slice P.A1 r.sigs.length P.c1, .slice A3 L3.length c3, .bool r.begins, .bool r.ends, .int .i64 r.ms, .int .i64 r.timer] := by rw [q_w3.out]; exact ((((((hoq3_1O.set 0 (.slice P.A1 r.sigs.length P.c1)).set 1 (.slice A3 L3.length c3)).set 2 (.bool r.begins)).set 3 (.bool r.ends)).set 4 (.int .i64 r.ms)).set 5 (.int .i64 r.timer))
    have hoq3_2C := htq3_2.blk hoq3_1C (by intro e; have e : g = g + 1 + 1 := e; omega)
    have hoq3_2R := htq3_2.blk hbq3_1 (by intro e; have e : g + 1 = g + 1 + 1 := e; omega)
    have hrq3_2 := hrq3_1.touch htq3_2 (fun k e => by have e : k = g + 1 + 1 := e; rw [e]; exact HGO.out)
    have hTq3_2 : Touch (OfAct K) w w3 := hTq3_1.trans htq3_2 (fun k _ e => by have e : k = g + 1 + 1 := e; intro hk; have := HLIM.out k hk; omega)
    clear xC0 fC0 xC1 fC1 xC2 fC2 xC3 fC3 xC4 fC4 xC5 fC5 xC6 fC6 xC7 fC7 xR0 fR0 xR1 fR1 xR2 fR2 xR3 fR3 xR4 fR4 xR5 fR5 xO0 fO0 xO1 fO1 xO2 fO2 xO3 fO3 xO4 fO4 xO5 fO5
    have HBC3 : Hid (Blk w3 (g) 59 [.int .i64 s.most, .int .i64 s.credit, .int .i64 s.state, .int .i64 s.sq, .int .i64 s.peer, .int .i64 s.cc, .int .i64 s.ms, .string s.data]) := hoq3_2C
    have HBR3 : Hid (Blk w3 (g + 1) 90 [.slice P.A1 r.sigs.length P.c1, .slice A3 L3.length c3, .bool r.begins, .bool r.ends, .int .i64 r.ms, .int .i64 r.timer]) := hoq3_2R
    have HBO3 : Hid (Blk w3 (g + 1 + 1) 90 [.slice P.A1 r.sigs.length P.c1, .slice A3 L3.length c3, .bool r.begins, .bool r.ends, .int .i64 r.ms, .int .i64 r.timer]) := hbq3_2
    have HR3 := Lib.hid hrq3_2
    have HT3 : Hid (Touch (OfAct K) w w3) := hTq3_2
    clear HBC2 HBR2 HBO2 HR2 HT2 htq3_1 hbq3_1 hrq3_1 hTq3_1 hoq3_1C hoq3_1O htq3_2 hbq3_2 hrq3_2 hTq3_2 hoq3_2C hoq3_2R
    rw [← q_w3.out]
    clear q_w3
    have HX : Hid (∀ e, e = .returned (.agg #[.slice P.A1 r.sigs.length P.c1, .slice A3 L3.length c3, .bool r.begins, .bool r.ends, .int .i64 r.ms, .int .i64 r.timer]) → RPost1 K (n + 1) ((Cn.out (s, r) (Cn.unit_ 9 sq self d)).2) w e w3) := fun e he => ⟨{ P with A2 := A3, c2 := c3 }, he.trans (by first | rfl | (show L3 = r.units ++ [Cn.crd s (Cn.unit_ 9 sq self d)]; rw [hL3.out, HM.out]) | (unfold Cn.out; simp only [HM.out, ← hL3.out]; rfl)), by (refine ((HR3.out.less HL.out).wide (by omega)).eq ?_ ?_ <;> first | rfl | (show L3 = r.units ++ [Cn.crd s (Cn.unit_ 9 sq self d)]; rw [hL3.out, HM.out]) | (unfold Cn.out; simp only [HM.out, ← hL3.out]; rfl)), HT3.out⟩
    have zO0 : w3.cell? ⟨g + 1 + 1, 0, none⟩ = some (.slice P.A1 r.sigs.length P.c1) := HBO3.out.cell 0
    have zO1 : w3.cell? ⟨g + 1 + 1, 1, none⟩ = some (.slice A3 L3.length c3) := HBO3.out.cell 1
    have zO2 : w3.cell? ⟨g + 1 + 1, 2, none⟩ = some (.bool r.begins) := HBO3.out.cell 2
    have zO3 : w3.cell? ⟨g + 1 + 1, 3, none⟩ = some (.bool r.ends) := HBO3.out.cell 3
    have zO4 : w3.cell? ⟨g + 1 + 1, 4, none⟩ = some (.int .i64 r.ms) := HBO3.out.cell 4
    have zO5 : w3.cell? ⟨g + 1 + 1, 5, none⟩ = some (.int .i64 r.timer) := HBO3.out.cell 5
    go_wp2
    exact bodyPost_ret (v := _) (by simp [results, Try.results67, go_sem, zO0, zO1, zO2, zO3, zO4, zO5]) rfl (HX.out _ rfl)
  by_cases e15 : kind = 15
  · subst e15
    have HM : Hid (Cn.crd s (Cn.unit_ 15 sq self d) = ⟨15, sq, s.credit, 0, 0, none, 0, 0, self, d⟩) := rfl
    go_wp2_with (first
      | (at_builtin
         refine app_runit rfl rfl (l := r.units) (l2 := [⟨15, sq, s.credit, 0, 0, none, 0, 0, self, d⟩]) rfl rfl (HR1.out.units.alloc _) (Sl.rd (Sl.lit runitE w1 _ rfl _ [⟨15, sq, s.credit, 0, 0, none, 0, 0, self, d⟩] rfl _ rfl (by decide))) (by simp; omega) ?_
         intro A3 c3 L3 w2 hL3 hs2 ht2 hA2
         obtain ⟨hr2, t2⟩ := HR1.out.sent ((Touch.refl _ w1).alloc _) hL3.out hs2 ht2 hA2
         have HBC2 := Lib.hid (t2.keptB HBC1.out HGC.out)
         have HBR2 := Lib.hid (t2.keptB HBR1.out HGR.out)
         have HBO2 := Lib.hid (t2.keptB HBO1.out HGO.out)
         have HR2 := Lib.hid hr2
         have HT2 : Hid (Touch (OfAct K) w w2) := HT1.out.trans (t2.loose HL.out) (fun _ _ e => e)
         clear hr2 t2 hs2 ht2 hA2 xC0 xC1 xC2 xC3 xC4 xC5 xC6 xC7 xR0 fR0 xR1 fR1 xR2 fR2 xR3 fR3 xR4 fR4 xR5 fR5 xO0 fO0 xO1 fO1 xO2 fO2 xO3 fO3 xO4 fO4 xO5 fO5
         have xC0 : w2.cell? ⟨g, 0, none⟩ = some (.int .i64 s.most) := HBC2.out.cell 0
         have fC0 := HBC2.out.frozen 0
         have xC1 : w2.cell? ⟨g, 1, none⟩ = some (.int .i64 s.credit) := HBC2.out.cell 1
         have fC1 := HBC2.out.frozen 1
         have xC2 : w2.cell? ⟨g, 2, none⟩ = some (.int .i64 s.state) := HBC2.out.cell 2
         have fC2 := HBC2.out.frozen 2
         have xC3 : w2.cell? ⟨g, 3, none⟩ = some (.int .i64 s.sq) := HBC2.out.cell 3
         have fC3 := HBC2.out.frozen 3
         have xC4 : w2.cell? ⟨g, 4, none⟩ = some (.int .i64 s.peer) := HBC2.out.cell 4
         have fC4 := HBC2.out.frozen 4
         have xC5 : w2.cell? ⟨g, 5, none⟩ = some (.int .i64 s.cc) := HBC2.out.cell 5
         have fC5 := HBC2.out.frozen 5
         have xC6 : w2.cell? ⟨g, 6, none⟩ = some (.int .i64 s.ms) := HBC2.out.cell 6
         have fC6 := HBC2.out.frozen 6
         have xC7 : w2.cell? ⟨g, 7, none⟩ = some (.string s.data) := HBC2.out.cell 7
         have fC7 := HBC2.out.frozen 7
         have xR0 : w2.cell? ⟨g + 1, 0, none⟩ = some (.slice P.A1 r.sigs.length P.c1) := HBR2.out.cell 0
         have fR0 := HBR2.out.frozen 0
         have xR1 : w2.cell? ⟨g + 1, 1, none⟩ = some (.slice P.A2 r.units.length P.c2) := HBR2.out.cell 1
         have fR1 := HBR2.out.frozen 1
         have xR2 : w2.cell? ⟨g + 1, 2, none⟩ = some (.bool r.begins) := HBR2.out.cell 2
         have fR2 := HBR2.out.frozen 2
         have xR3 : w2.cell? ⟨g + 1, 3, none⟩ = some (.bool r.ends) := HBR2.out.cell 3
         have fR3 := HBR2.out.frozen 3
         have xR4 : w2.cell? ⟨g + 1, 4, none⟩ = some (.int .i64 r.ms) := HBR2.out.cell 4
         have fR4 := HBR2.out.frozen 4
         have xR5 : w2.cell? ⟨g + 1, 5, none⟩ = some (.int .i64 r.timer) := HBR2.out.cell 5
         have fR5 := HBR2.out.frozen 5
         have xO0 : w2.cell? ⟨g + 1 + 1, 0, none⟩ = some (.slice none 0 0) := HBO2.out.cell 0
         have fO0 := HBO2.out.frozen 0
         have xO1 : w2.cell? ⟨g + 1 + 1, 1, none⟩ = some (.slice none 0 0) := HBO2.out.cell 1
         have fO1 := HBO2.out.frozen 1
         have xO2 : w2.cell? ⟨g + 1 + 1, 2, none⟩ = some (.bool false) := HBO2.out.cell 2
         have fO2 := HBO2.out.frozen 2
         have xO3 : w2.cell? ⟨g + 1 + 1, 3, none⟩ = some (.bool false) := HBO2.out.cell 3
         have fO3 := HBO2.out.frozen 3
         have xO4 : w2.cell? ⟨g + 1 + 1, 4, none⟩ = some (.int .i64 0) := HBO2.out.cell 4
         have fO4 := HBO2.out.frozen 4
         have xO5 : w2.cell? ⟨g + 1 + 1, 5, none⟩ = some (.int .i64 0) := HBO2.out.cell 5
         have fO5 := HBO2.out.frozen 5))
    have htq3_1 : Touch (· = g + 1) w2 (w2.setCell ⟨g + 1, 1, none⟩ (.slice A3 L3.length c3)) := ((Touch.refl _ w2).st (S := (· = g + 1)) (u := .slice A3 L3.length c3) (by exact rfl))
    have hbq3_1 : Blk (w2.setCell ⟨g + 1, 1, none⟩ (.slice A3 L3.length c3)) (g + 1) 90 [.slice P.A1 r.sigs.length P.c1, .slice A3 L3.length c3, .bool r.begins, .bool r.ends, .int .i64 r.ms, .int .i64 r.timer] := (HBR2.out.set 1 (.slice A3 L3.length c3))
    have hoq3_1C := htq3_1.blk HBC2.out (by intro e; have e : g = g + 1 := e; omega)
    have hoq3_1O := htq3_1.blk HBO2.out (by intro e; have e : g + 1 + 1 = g + 1 := e; omega)
    have hrq3_1 := HR2.out.touch htq3_1 (fun k e => by have e : k = g + 1 := e; rw [e]; exact HGR.out)
    have hTq3_1 : Touch (OfAct K) w (w2.setCell ⟨g + 1, 1, none⟩ (.slice A3 L3.length c3)) := HT2.out.trans htq3_1 (fun k _ e => by have e : k = g + 1 := e; intro hk; have := HLIM.out k hk; omega)
    have htq3_2 : Touch (· = g + 1 + 1) (w2.setCell ⟨g + 1, 1, none⟩ (.slice A3 L3.length c3)) (((((((w2.setCell ⟨g + 1, 1, none⟩ (.slice A3 L3.length c3)).setCell ⟨g + 1 + 1, 0, none⟩ (.slice P.A1 r.sigs.length P.c1)).setCell ⟨g + 1 + 1, 1, none⟩ (.slice A3 L3.length c3)).setCell ⟨g + 1 + 1, 2, none⟩ (.bool r.begins)).setCell ⟨g + 1 + 1, 3, none⟩ (.bool r.ends)).setCell ⟨g + 1 + 1, 4, none⟩ (.int .i64 r.ms)).setCell ⟨g + 1 + 1, 5, none⟩ (.int .i64 r.timer)) := (((((((Touch.refl _ (w2.setCell ⟨g + 1, 1, none⟩ (.slice A3 L3.length c3))).st (S := (· = g + 1 + 1)) (u := .slice P.A1 r.sigs.length P.c1) (by exact rfl)).st (S := (· = g + 1 + 1)) (u := .slice A3 L3.length c3) (by exact rfl)).st (S := (· = g + 1 + 1)) (u := .bool r.begins) (by exact rfl)).st (S := (· = g + 1 + 1)) (u := .bool r.ends) (by exact rfl)).st (S := (· = g + 1 + 1)) (u := .int .i64 r.ms) (by exact rfl)).st (S := (· = g + 1 + 1)) (u := .int .i64 r.timer) (by exact rfl))
    have hbq3_2 : Blk (((((((w2.setCell ⟨g + 1, 1, none⟩ (.slice A3 L3.length c3)).setCell ⟨g + 1 + 1, 0, none⟩ (.slice P.A1 r.sigs.length P.c1)).setCell ⟨g + 1 + 1, 1, none⟩ (.slice A3 L3.length c3)).setCell ⟨g + 1 + 1, 2, none⟩ (.bool r.begins)).setCell ⟨g + 1 + 1, 3, none⟩ (.bool r.ends)).setCell ⟨g + 1 + 1, 4, none⟩ (.int .i64 r.ms)).setCell ⟨g + 1 + 1, 5, none⟩ (.int .i64 r.timer)) (g + 1 + 1) 90 [.slice P.A1 r.sigs.length P.c1, .slice A3 L3.length c3, .bool r.begins, .bool r.ends, .int .i64 r.ms, .int .i64 r.timer] := ((((((hoq3_1O.set 0 (.slice P.A1 r.sigs.length P.c1)).set 1 (.slice A3 L3.length c3)).set 2 (.bool r.begins)).set 3 (.bool r.ends)).set 4 (.int .i64 r.ms)).set 5 (.int .i64 r.timer))
    have hoq3_2C := htq3_2.blk hoq3_1C (by intro e; have e : g = g + 1 + 1 := e; omega)
    have hoq3_2R := htq3_2.blk hbq3_1 (by intro e; have e : g + 1 = g + 1 + 1 := e; omega)
    have hrq3_2 := hrq3_1.touch htq3_2 (fun k e => by have e : k = g + 1 + 1 := e; rw [e]; exact HGO.out)
    have hTq3_2 : Touch (OfAct K) w (((((((w2.setCell ⟨g + 1, 1, none⟩ (.slice A3 L3.length c3)).setCell ⟨g + 1 + 1, 0, none⟩ (.slice P.A1 r.sigs.length P.c1)).setCell ⟨g + 1 + 1, 1, none⟩ (.slice A3 L3.length c3)).setCell ⟨g + 1 + 1, 2, none⟩ (.bool r.begins)).setCell ⟨g + 1 + 1, 3, none⟩ (.bool r.ends)).setCell ⟨g + 1 + 1, 4, none⟩ (.int .i64 r.ms)).setCell ⟨g + 1 + 1, 5, none⟩ (.int .i64 r.timer)) := hTq3_1.trans htq3_2 (fun k _ e => by have e : k = g + 1 + 1 := e; intro hk; have := HLIM.out k hk; omega)
    clear xC0 fC0 xC1 fC1 xC2 fC2 xC3 fC3 xC4 fC4 xC5 fC5 xC6 fC6 xC7 fC7 xR0 fR0 xR1 fR1 xR2 fR2 xR3 fR3 xR4 fR4 xR5 fR5 xO0 fO0 xO1 fO1 xO2 fO2 xO3 fO3 xO4 fO4 xO5 fO5
    have HBC3 : Hid (Blk (((((((w2.setCell ⟨g + 1, 1, none⟩ (.slice A3 L3.length c3)).setCell ⟨g + 1 + 1, 0, none⟩ (.slice P.A1 r.sigs.length P.c1)).setCell ⟨g + 1 + 1, 1, none⟩ (.slice A3 L3.length c3)).setCell ⟨g + 1 + 1, 2, none⟩ (.bool r.begins)).setCell ⟨g + 1 + 1, 3, none⟩ (.bool r.ends)).setCell ⟨g + 1 + 1, 4, none⟩ (.int .i64 r.ms)).setCell ⟨g + 1 + 1, 5, none⟩ (.int .i64 r.timer)) (g) 59 [.int .i64 s.most, .int .i64 s.credit, .int .i64 s.state, .int .i64 s.sq, .int .i64 s.peer, .int .i64 s.cc, .int .i64 s.ms, .string s.data]) := hoq3_2C
    have HBR3 : Hid (Blk (((((((w2.setCell ⟨g + 1, 1, none⟩ (.slice A3 L3.length c3)).setCell ⟨g + 1 + 1, 0, none⟩ (.slice P.A1 r.sigs.length P.c1)).setCell ⟨g + 1 + 1, 1, none⟩ (.slice A3 L3.length c3)).setCell ⟨g + 1 + 1, 2, none⟩ (.bool r.begins)).setCell ⟨g + 1 + 1, 3, none⟩ (.bool r.ends)).setCell ⟨g + 1 + 1, 4, none⟩ (.int .i64 r.ms)).setCell ⟨g + 1 + 1, 5, none⟩ (.int .i64 r.timer)) (g + 1) 90 [.slice P.A1 r.sigs.length P.c1, .slice A3 L3.length c3, .bool r.begins, .bool r.ends, .int .i64 r.ms, .int .i64 r.timer]) := hoq3_2R
    have HBO3 : Hid (Blk (((((((w2.setCell ⟨g + 1, 1, none⟩ (.slice A3 L3.length c3)).setCell ⟨g + 1 + 1, 0, none⟩ (.slice P.A1 r.sigs.length P.c1)).setCell ⟨g + 1 + 1, 1, none⟩ (.slice A3 L3.length c3)).setCell ⟨g + 1 + 1, 2, none⟩ (.bool r.begins)).setCell ⟨g + 1 + 1, 3, none⟩ (.bool r.ends)).setCell ⟨g + 1 + 1, 4, none⟩ (.int .i64 r.ms)).setCell ⟨g + 1 + 1, 5, none⟩ (.int .i64 r.timer)) (g + 1 + 1) 90 [.slice P.A1 r.sigs.length P.c1, .slice A3 L3.length c3, .bool r.begins, .bool r.ends, .int .i64 r.ms, .int .i64 r.timer]) := hbq3_2
    have HR3 := Lib.hid hrq3_2
    have HT3 : Hid (Touch (OfAct K) w (((((((w2.setCell ⟨g + 1, 1, none⟩ (.slice A3 L3.length c3)).setCell ⟨g + 1 + 1, 0, none⟩ (.slice P.A1 r.sigs.length P.c1)).setCell ⟨g + 1 + 1, 1, none⟩ (.slice A3 L3.length c3)).setCell ⟨g + 1 + 1, 2, none⟩ (.bool r.begins)).setCell ⟨g + 1 + 1, 3, none⟩ (.bool r.ends)).setCell ⟨g + 1 + 1, 4, none⟩ (.int .i64 r.ms)).setCell ⟨g + 1 + 1, 5, none⟩ (.int .i64 r.timer))) := hTq3_2
    clear HBC2 HBR2 HBO2 HR2 HT2 htq3_1 hbq3_1 hrq3_1 hTq3_1 hoq3_1C hoq3_1O htq3_2 hbq3_2 hrq3_2 hTq3_2 hoq3_2C hoq3_2R
    generalize (((((((w2.setCell ⟨g + 1, 1, none⟩ (.slice A3 L3.length c3)).setCell ⟨g + 1 + 1, 0, none⟩ (.slice P.A1 r.sigs.length P.c1)).setCell ⟨g + 1 + 1, 1, none⟩ (.slice A3 L3.length c3)).setCell ⟨g + 1 + 1, 2, none⟩ (.bool r.begins)).setCell ⟨g + 1 + 1, 3, none⟩ (.bool r.ends)).setCell ⟨g + 1 + 1, 4, none⟩ (.int .i64 r.ms)).setCell ⟨g + 1 + 1, 5, none⟩ (.int .i64 r.timer)) = w3 at *
    have HX : Hid (∀ e, e = .returned (.agg #[.slice P.A1 r.sigs.length P.c1, .slice A3 L3.length c3, .bool r.begins, .bool r.ends, .int .i64 r.ms, .int .i64 r.timer]) → RPost1 K (n + 1) ((Cn.out (s, r) (Cn.unit_ 15 sq self d)).2) w e w3) := fun e he => ⟨{ P with A2 := A3, c2 := c3 }, he.trans (by first | rfl | (show L3 = r.units ++ [Cn.crd s (Cn.unit_ 15 sq self d)]; rw [hL3.out, HM.out]) | (unfold Cn.out; simp only [HM.out, ← hL3.out]; rfl)), by (refine ((HR3.out.less HL.out).wide (by omega)).eq ?_ ?_ <;> first | rfl | (show L3 = r.units ++ [Cn.crd s (Cn.unit_ 15 sq self d)]; rw [hL3.out, HM.out]) | (unfold Cn.out; simp only [HM.out, ← hL3.out]; rfl)), HT3.out⟩
    have zO0 : w3.cell? ⟨g + 1 + 1, 0, none⟩ = some (.slice P.A1 r.sigs.length P.c1) := HBO3.out.cell 0
    have zO1 : w3.cell? ⟨g + 1 + 1, 1, none⟩ = some (.slice A3 L3.length c3) := HBO3.out.cell 1
    have zO2 : w3.cell? ⟨g + 1 + 1, 2, none⟩ = some (.bool r.begins) := HBO3.out.cell 2
    have zO3 : w3.cell? ⟨g + 1 + 1, 3, none⟩ = some (.bool r.ends) := HBO3.out.cell 3
    have zO4 : w3.cell? ⟨g + 1 + 1, 4, none⟩ = some (.int .i64 r.ms) := HBO3.out.cell 4
    have zO5 : w3.cell? ⟨g + 1 + 1, 5, none⟩ = some (.int .i64 r.timer) := HBO3.out.cell 5
    go_wp2
    exact bodyPost_ret (v := _) (by simp [results, Try.results67, go_sem, zO0, zO1, zO2, zO3, zO4, zO5]) rfl (HX.out _ rfl)
  have hz : Cn.has kind = false := by simp [Cn.has, e1, e2, e5, e6, e9, e15]
  have HM : Hid (Cn.crd s (Cn.unit_ kind sq self d) = ⟨kind, sq, 0, 0, 0, none, 0, 0, self, d⟩) := by unfold Hid Cn.crd; rw [show (Cn.unit_ kind sq self d).kind = kind from rfl, hz]; rfl
  have b1 : (kind == 1) = false := by simpa using e1
  have b2 : (kind == 2) = false := by simpa using e2
  have b5 : (kind == 5) = false := by simpa using e5
  have b6 : (kind == 6) = false := by simpa using e6
  have b9 : (kind == 9) = false := by simpa using e9
  have b15 : (kind == 15) = false := by simpa using e15
  clear e1 e2 e5 e6 e9 e15 hz
  go_wp2_with (first
    | (at_builtin
       refine app_runit rfl rfl (l := r.units) (l2 := [⟨kind, sq, 0, 0, 0, none, 0, 0, self, d⟩]) rfl rfl (HR1.out.units.alloc _) (Sl.rd (Sl.lit runitE w1 _ rfl _ [⟨kind, sq, 0, 0, 0, none, 0, 0, self, d⟩] rfl _ rfl (by decide))) (by simp; omega) ?_
       intro A3 c3 L3 w2 hL3 hs2 ht2 hA2
       obtain ⟨hr2, t2⟩ := HR1.out.sent ((Touch.refl _ w1).alloc _) hL3.out hs2 ht2 hA2
       have HBC2 := Lib.hid (t2.keptB HBC1.out HGC.out)
       have HBR2 := Lib.hid (t2.keptB HBR1.out HGR.out)
       have HBO2 := Lib.hid (t2.keptB HBO1.out HGO.out)
       have HR2 := Lib.hid hr2
       have HT2 : Hid (Touch (OfAct K) w w2) := HT1.out.trans (t2.loose HL.out) (fun _ _ e => e)
       clear hr2 t2 hs2 ht2 hA2 xC0 xC1 xC2 xC3 xC4 xC5 xC6 xC7 xR0 fR0 xR1 fR1 xR2 fR2 xR3 fR3 xR4 fR4 xR5 fR5 xO0 fO0 xO1 fO1 xO2 fO2 xO3 fO3 xO4 fO4 xO5 fO5
       have xC0 : w2.cell? ⟨g, 0, none⟩ = some (.int .i64 s.most) := HBC2.out.cell 0
       have fC0 := HBC2.out.frozen 0
       have xC1 : w2.cell? ⟨g, 1, none⟩ = some (.int .i64 s.credit) := HBC2.out.cell 1
       have fC1 := HBC2.out.frozen 1
       have xC2 : w2.cell? ⟨g, 2, none⟩ = some (.int .i64 s.state) := HBC2.out.cell 2
       have fC2 := HBC2.out.frozen 2
       have xC3 : w2.cell? ⟨g, 3, none⟩ = some (.int .i64 s.sq) := HBC2.out.cell 3
       have fC3 := HBC2.out.frozen 3
       have xC4 : w2.cell? ⟨g, 4, none⟩ = some (.int .i64 s.peer) := HBC2.out.cell 4
       have fC4 := HBC2.out.frozen 4
       have xC5 : w2.cell? ⟨g, 5, none⟩ = some (.int .i64 s.cc) := HBC2.out.cell 5
       have fC5 := HBC2.out.frozen 5
       have xC6 : w2.cell? ⟨g, 6, none⟩ = some (.int .i64 s.ms) := HBC2.out.cell 6
       have fC6 := HBC2.out.frozen 6
       have xC7 : w2.cell? ⟨g, 7, none⟩ = some (.string s.data) := HBC2.out.cell 7
       have fC7 := HBC2.out.frozen 7
       have xR0 : w2.cell? ⟨g + 1, 0, none⟩ = some (.slice P.A1 r.sigs.length P.c1) := HBR2.out.cell 0
       have fR0 := HBR2.out.frozen 0
       have xR1 : w2.cell? ⟨g + 1, 1, none⟩ = some (.slice P.A2 r.units.length P.c2) := HBR2.out.cell 1
       have fR1 := HBR2.out.frozen 1
       have xR2 : w2.cell? ⟨g + 1, 2, none⟩ = some (.bool r.begins) := HBR2.out.cell 2
       have fR2 := HBR2.out.frozen 2
       have xR3 : w2.cell? ⟨g + 1, 3, none⟩ = some (.bool r.ends) := HBR2.out.cell 3
       have fR3 := HBR2.out.frozen 3
       have xR4 : w2.cell? ⟨g + 1, 4, none⟩ = some (.int .i64 r.ms) := HBR2.out.cell 4
       have fR4 := HBR2.out.frozen 4
       have xR5 : w2.cell? ⟨g + 1, 5, none⟩ = some (.int .i64 r.timer) := HBR2.out.cell 5
       have fR5 := HBR2.out.frozen 5
       have xO0 : w2.cell? ⟨g + 1 + 1, 0, none⟩ = some (.slice none 0 0) := HBO2.out.cell 0
       have fO0 := HBO2.out.frozen 0
       have xO1 : w2.cell? ⟨g + 1 + 1, 1, none⟩ = some (.slice none 0 0) := HBO2.out.cell 1
       have fO1 := HBO2.out.frozen 1
       have xO2 : w2.cell? ⟨g + 1 + 1, 2, none⟩ = some (.bool false) := HBO2.out.cell 2
       have fO2 := HBO2.out.frozen 2
       have xO3 : w2.cell? ⟨g + 1 + 1, 3, none⟩ = some (.bool false) := HBO2.out.cell 3
       have fO3 := HBO2.out.frozen 3
       have xO4 : w2.cell? ⟨g + 1 + 1, 4, none⟩ = some (.int .i64 0) := HBO2.out.cell 4
       have fO4 := HBO2.out.frozen 4
       have xO5 : w2.cell? ⟨g + 1 + 1, 5, none⟩ = some (.int .i64 0) := HBO2.out.cell 5
       have fO5 := HBO2.out.frozen 5))
  have htq3_1 : Touch (· = g + 1) w2 (w2.setCell ⟨g + 1, 1, none⟩ (.slice A3 L3.length c3)) := ((Touch.refl _ w2).st (S := (· = g + 1)) (u := .slice A3 L3.length c3) (by exact rfl))
  have hbq3_1 : Blk (w2.setCell ⟨g + 1, 1, none⟩ (.slice A3 L3.length c3)) (g + 1) 90 [.slice P.A1 r.sigs.length P.c1, .slice A3 L3.length c3, .bool r.begins, .bool r.ends, .int .i64 r.ms, .int .i64 r.timer] := (HBR2.out.set 1 (.slice A3 L3.length c3))
  have hoq3_1C := htq3_1.blk HBC2.out (by intro e; have e : g = g + 1 := e; omega)
  have hoq3_1O := htq3_1.blk HBO2.out (by intro e; have e : g + 1 + 1 = g + 1 := e; omega)
  have hrq3_1 := HR2.out.touch htq3_1 (fun k e => by have e : k = g + 1 := e; rw [e]; exact HGR.out)
  have hTq3_1 : Touch (OfAct K) w (w2.setCell ⟨g + 1, 1, none⟩ (.slice A3 L3.length c3)) := HT2.out.trans htq3_1 (fun k _ e => by have e : k = g + 1 := e; intro hk; have := HLIM.out k hk; omega)
  obtain ⟨w3, q0⟩ : ∃ x : World, x = (((((((w2.setCell ⟨g + 1, 1, none⟩ (.slice A3 L3.length c3)).setCell ⟨g + 1 + 1, 0, none⟩ (.slice P.A1 r.sigs.length P.c1)).setCell ⟨g + 1 + 1, 1, none⟩ (.slice A3 L3.length c3)).setCell ⟨g + 1 + 1, 2, none⟩ (.bool r.begins)).setCell ⟨g + 1 + 1, 3, none⟩ (.bool r.ends)).setCell ⟨g + 1 + 1, 4, none⟩ (.int .i64 r.ms)).setCell ⟨g + 1 + 1, 5, none⟩ (.int .i64 r.timer)) := ⟨_, rfl⟩
  have q_w3 := Lib.hid q0
  clear q0
  have htq3_2 : Touch (· = g + 1 + 1) (w2.setCell ⟨g + 1, 1, none⟩ (.slice A3 L3.length c3)) w3 := by rw [q_w3.out]; exact (((((((Touch.refl _ (w2.setCell ⟨g + 1, 1, none⟩ (.slice A3 L3.length c3))).st (S := (· = g + 1 + 1)) (u := .slice P.A1 r.sigs.length P.c1) (by exact rfl)).st (S := (· = g + 1 + 1)) (u := .slice A3 L3.length c3) (by exact rfl)).st (S := (· = g + 1 + 1)) (u := .bool r.begins) (by exact rfl)).st (S := (· = g + 1 + 1)) (u := .bool r.ends) (by exact rfl)).st (S := (· = g + 1 + 1)) (u := .int .i64 r.ms) (by exact rfl)).st (S := (· = g + 1 + 1)) (u := .int .i64 r.timer) (by exact rfl))
  have hbq3_2 : Blk w3 (g + 1 + 1) 90 [.slice P.A1 r.sigs.length P.c1, .slice A3 L3.length c3, .bool r.begins, .bool r.ends, .int .i64 r.ms, .int .i64 r.timer] := by rw [q_w3.out]; exact ((((((hoq3_1O.set 0 (.slice P.A1 r.sigs.length P.c1)).set 1 (.slice A3 L3.length c3)).set 2 (.bool r.begins)).set 3 (.bool r.ends)).set 4 (.int .i64 r.ms)).set 5 (.int .i64 r.timer))
  have hoq3_2C := htq3_2.blk hoq3_1C (by intro e; have e : g = g + 1 + 1 := e; omega)
  have hoq3_2R := htq3_2.blk hbq3_1 (by intro e; have e : g + 1 = g + 1 + 1 := e; omega)
  have hrq3_2 := hrq3_1.touch htq3_2 (fun k e => by have e : k = g + 1 + 1 := e; rw [e]; exact HGO.out)
  have hTq3_2 : Touch (OfAct K) w w3 := hTq3_1.trans htq3_2 (fun k _ e => by have e : k = g + 1 + 1 := e; intro hk; have := HLIM.out k hk; omega)
  clear xC0 fC0 xC1 fC1 xC2 fC2 xC3 fC3 xC4 fC4 xC5 fC5 xC6 fC6 xC7 fC7 xR0 fR0 xR1 fR1 xR2 fR2 xR3 fR3 xR4 fR4 xR5 fR5 xO0 fO0 xO1 fO1 xO2 fO2 xO3 fO3 xO4 fO4 xO5 fO5
  have HBC3 : Hid (Blk w3 (g) 59 [.int .i64 s.most, .int .i64 s.credit, .int .i64 s.state, .int .i64 s.sq, .int .i64 s.peer, .int .i64 s.cc, .int .i64 s.ms, .string s.data]) := hoq3_2C
  have HBR3 : Hid (Blk w3 (g + 1) 90 [.slice P.A1 r.sigs.length P.c1, .slice A3 L3.length c3, .bool r.begins, .bool r.ends, .int .i64 r.ms, .int .i64 r.timer]) := hoq3_2R
  have HBO3 : Hid (Blk w3 (g + 1 + 1) 90 [.slice P.A1 r.sigs.length P.c1, .slice A3 L3.length c3, .bool r.begins, .bool r.ends, .int .i64 r.ms, .int .i64 r.timer]) := hbq3_2
  have HR3 := Lib.hid hrq3_2
  have HT3 : Hid (Touch (OfAct K) w w3) := hTq3_2
  clear HBC2 HBR2 HBO2 HR2 HT2 htq3_1 hbq3_1 hrq3_1 hTq3_1 hoq3_1C hoq3_1O htq3_2 hbq3_2 hrq3_2 hTq3_2 hoq3_2C hoq3_2R
  rw [← q_w3.out]
  clear q_w3
  have HX : Hid (∀ e, e = .returned (.agg #[.slice P.A1 r.sigs.length P.c1, .slice A3 L3.length c3, .bool r.begins, .bool r.ends, .int .i64 r.ms, .int .i64 r.timer]) → RPost1 K (n + 1) ((Cn.out (s, r) (Cn.unit_ kind sq self d)).2) w e w3) := fun e he => ⟨{ P with A2 := A3, c2 := c3 }, he.trans (by first | rfl | (show L3 = r.units ++ [Cn.crd s (Cn.unit_ kind sq self d)]; rw [hL3.out, HM.out]) | (unfold Cn.out; simp only [HM.out, ← hL3.out]; rfl)), by (refine ((HR3.out.less HL.out).wide (by omega)).eq ?_ ?_ <;> first | rfl | (show L3 = r.units ++ [Cn.crd s (Cn.unit_ kind sq self d)]; rw [hL3.out, HM.out]) | (unfold Cn.out; simp only [HM.out, ← hL3.out]; rfl)), HT3.out⟩
  have zO0 : w3.cell? ⟨g + 1 + 1, 0, none⟩ = some (.slice P.A1 r.sigs.length P.c1) := HBO3.out.cell 0
  have zO1 : w3.cell? ⟨g + 1 + 1, 1, none⟩ = some (.slice A3 L3.length c3) := HBO3.out.cell 1
  have zO2 : w3.cell? ⟨g + 1 + 1, 2, none⟩ = some (.bool r.begins) := HBO3.out.cell 2
  have zO3 : w3.cell? ⟨g + 1 + 1, 3, none⟩ = some (.bool r.ends) := HBO3.out.cell 3
  have zO4 : w3.cell? ⟨g + 1 + 1, 4, none⟩ = some (.int .i64 r.ms) := HBO3.out.cell 4
  have zO5 : w3.cell? ⟨g + 1 + 1, 5, none⟩ = some (.int .i64 r.timer) := HBO3.out.cell 5
  go_wp2
  exact bodyPost_ret (v := _) (by simp [results, Try.results67, go_sem, zO0, zO1, zO2, zO3, zO4, zO5]) rfl (HX.out _ rfl)
end Go.Proofs.Ytkmegkjkbalooaa

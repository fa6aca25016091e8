/-
  polliwogref14: tell, report, out, to, ready, begin: by value, each struct loaded and stored whole. Conditions: the result's parts lie in nothing that is kept · polliwogref16.Node with nothing waiting, by value: Ready, credit. Conditions: it lacks nothing.
-/
import Derived.Test.YtipaobpmojahaaaGreatRc
import Derived.Test.YtipaobpmojahaaaGreatChk
import Derived.Test.YtipaobpmojahaaaGreatFB
import Derived.Deep.CutBlock
import Derived.Deep.DeepCutAuto
import Derived.Test.YtipaobpmojahaaaGreatOp6
set_option maxHeartbeats 1000000
namespace Go.Proofs.YtipaobpmojahaaaGreat
open Go.RowKit
set_option maxRecDepth 20000

theorem rcI : (Tryz.prog.info? 29).map (·.size) = some 8 := by kernel_rfl
theorem rrI : (Tryz.prog.info? 217).map (·.size) = some 6 := by kernel_rfl
theorem rcO (s : Cn.S) : ∀ v ∈ rcCells s, v.oneCell' = true := by simp [rcCells, Value.oneCell']
theorem rrO (P : RP) (r : Cn.R) : ∀ v ∈ rrCells P r, v.oneCell' = true := by simp [rrCells, Value.oneCell']
def rcZ : List Value := [.int .i64 0, .int .i64 0, .int .i64 0, .int .i64 0, .int .i64 0, .int .i64 0, .int .i64 0, .string { data := #[] }]
def rrZ : List Value := [.slice none 0 0, .slice none 0 0, .bool false, .bool false, .int .i64 0, .int .i64 0]
section
variable {ops : Array Oper} {rest : List Oper} {op : Oper} {a : Act} {w : World} {Q : Exit -> Act -> World -> Prop}
theorem ldC (hgd : op.guard = none) (x : Operand) (ho : op.op = .load 29 x) {b : Nat} (hx : a.eval x = .pointer (some ⟨b, 0, none⟩)) {s : Cn.S} (hB : Blk w b 29 (rcCells s)) (h : wpList Tryz.prog ops Q rest (a.put op.dst (.agg (rcCells s).toArray)) w) : wpList Tryz.prog ops Q (op :: rest) a w :=
 wpList_loadB hgd _ x ho b 0 hx _ hB.range Tryz.underlying29 rfl rcI h
theorem ldR (hgd : op.guard = none) (x : Operand) (ho : op.op = .load 217 x) {b : Nat} (hx : a.eval x = .pointer (some ⟨b, 0, none⟩)) {P : RP} {r : Cn.R} (hB : Blk w b 217 (rrCells P r)) (h : wpList Tryz.prog ops Q rest (a.put op.dst (.agg (rrCells P r).toArray)) w) : wpList Tryz.prog ops Q (op :: rest) a w :=
 wpList_loadB hgd _ x ho b 0 hx _ hB.range Tryz.underlying217 rfl rrI h
theorem stC (hgd : op.guard = none) (x y : Operand) (ho : op.op = .store 29 x y) {b : Nat} (hx : a.eval x = .pointer (some ⟨b, 0, none⟩)) (s : Cn.S) (hy : a.eval y = .agg (rcCells s).toArray) {old : List Value} (hB : Blk w b 29 old) (hl : old.length = 8) (h : ∀ w', Blk w' b 29 (rcCells s) -> Touch (· = b) w w' -> wpList Tryz.prog ops Q rest (a.put op.dst undef) w') : wpList Tryz.prog ops Q (op :: rest) a w :=
 wpList_storeB hgd _ x y ho b 0 hx _ hy hB (Nat.le_of_eq hl.symm) rcI (rcO s) fun w' h1 h2 => h w' (h1.eq_cells (by rw [List.take_zero, List.nil_append, show 0 + (rcCells s).length = 8 from rfl, List.drop_eq_nil_of_le (Nat.le_of_eq hl), List.append_nil])) h2
theorem stR (hgd : op.guard = none) (x y : Operand) (ho : op.op = .store 217 x y) {b : Nat} (hx : a.eval x = .pointer (some ⟨b, 0, none⟩)) (P : RP) (r : Cn.R) (hy : a.eval y = .agg (rrCells P r).toArray) {old : List Value} (hB : Blk w b 217 old) (hl : old.length = 6) (h : ∀ w', Blk w' b 217 (rrCells P r) -> Touch (· = b) w w' -> wpList Tryz.prog ops Q rest (a.put op.dst undef) w') : wpList Tryz.prog ops Q (op :: rest) a w :=
 wpList_storeB hgd _ x y ho b 0 hx _ hy hB (Nat.le_of_eq hl.symm) rrI (rrO P r) fun w' h1 h2 => h w' (h1.eq_cells (by rw [List.take_zero, List.nil_append, show 0 + (rrCells P r).length = 6 from rfl, List.drop_eq_nil_of_le (Nat.le_of_eq hl), List.append_nil])) h2
end
section
variable {K : Nat -> Prop} {n : Nat} {w : World} {P : RP} {s : Cn.S} {r : Cn.R} {bs : List Nat} {w0 w' : World} {L : List Bx}
theorem RIn.boxed (h : RIn K n w0 P r) (hx : FB K bs w0 w L) (hf : Fresh w0 w) : RIn (KB K bs) n w P r :=
 ⟨hx.klim, (h.old hf).sigs, (h.old hf).units, fun ad e e' => e'.elim (h.b1 ad e) fun e2 => by have := h.sigs.lt ad e; have := hx.new _ e2; omega, fun ad e e' => e'.elim (h.b2 ad e) fun e2 => by have := h.units.lt ad e; have := hx.new _ e2; omega, h.l1, h.l2⟩
theorem RIn.box (h : RIn (KB K bs) n w P r) {b : Nat} (hb : b ∈ bs) (ht : Touch (· = b) w w') : RIn (KB K bs) n w' P r := h.touch ht fun k e => .inr (by have e : k = b := e; rw [e]; exact hb)
theorem RIn.unbox (h : RIn (KB K bs) n w P r) (_hl : ∀ k, K k -> k < w.heap.size) : RIn K n w P r := h.less fun _k e => .inl e

theorem rtell_any (h : RIn K n w P r) (hn : n <= 90) (kind : Int) (self : Bool) (d : ByteArray) :
  Calls Tryz.prog 202 #[rrV P r, .int .i64 kind, .bool self, .string d] w (RPost1 K (n + 1) { r with sigs := r.sigs ++ [Cn.sig kind self d] } w) := by
 show Calls _ _ #[.agg (rrCells P r).toArray, .int .i64 kind, .bool self, .string d] _ _
 have hl := h.l1
 obtain ⟨w1, hw1⟩ := xq (((w.alloc (.cells (rrCells P r).toArray 217)).alloc (.cells #[.slice none 0 0, .slice none 0 0, .bool false, .bool false, .int .i64 0, .int .i64 0] 217)))
 have HX : Hid (FB K [w.heap.size, w.heap.size + 1] w w1 [⟨w.heap.size, 217, (rrCells P r)⟩, ⟨w.heap.size + 1, 217, rrZ⟩]) := by rw [hw1]; exact (((FB.nil w h.lim).al _ (rrCells P r) (w.heap.size) (by simp)).al _ rrZ (w.heap.size + 1) (by simp))
 have HR := lh (h.boxed HX.out (by rw [hw1]; exact (((Touch.refl _ _).alloc _).alloc _)))
 clear h
 go_enter Tryz.func202, Tryz.ntmps202
 go_upto_region 1 with (fail)
 rw [<- hw1]
 clear hw1
 generalize w.heap.size = g at *
 have c0 : w1.cell? ⟨g, 0, none⟩ = some (.slice P.A1 r.sigs.length P.c1) := (HX.out.at_ 0 rfl).cell 0
 go_upto_region 2 with (at_builtin; refine app_rsig rfl rfl (l := r.sigs) (l2 := [Cn.sig kind self d]) rfl rfl (HR.out.sigs.alloc _) (Sl.rd (Sl.lit rsigE w1 _ rfl _ [Cn.sig kind self d] rfl _ rfl (by decide))) (by simp; omega) ?_; intro A3 c3 L3 w2 hL3 hs2 ht2 hA2; obtain ⟨hr2, t2⟩ := HR.out.told ((Touch.refl _ w1).alloc _) hL3.out hs2 ht2 hA2; have HX2 := lh (HX.out.act t2); have HR2 := lh hr2; have d0 : w2.cell? ⟨g, 0, none⟩ = some (.slice P.A1 r.sigs.length P.c1) := (HX2.out.at_ 0 rfl).cell 0; have f0 : w2.frozen? ⟨g, 0, none⟩ = false := (HX2.out.at_ 0 rfl).frozen 0; clear hr2 t2 hs2 ht2 hA2 c0)
 obtain rfl := hL3.out
 have HX : Hid (FB K [g, g + 1] w (w2.setCell ⟨g, 0, none⟩ (.slice A3 (r.sigs ++ [Cn.sig kind self d]).length c3)) [⟨g, 217, rrCells { P with A1 := A3, c1 := c3 } { r with sigs := r.sigs ++ [Cn.sig kind self d] }⟩, ⟨g + 1, 217, rrZ⟩]) := HX2.out.put1 0 rfl 0 (.slice A3 (r.sigs ++ [Cn.sig kind self d]).length c3)
 have HR := lh (HR2.out.box (HX2.out.mem 0 rfl) (Touch.set1 w2 g 0 (.slice A3 (r.sigs ++ [Cn.sig kind self d]).length c3)))
 generalize w2.setCell ⟨g, 0, none⟩ (.slice A3 (r.sigs ++ [Cn.sig kind self d]).length c3) = w3 at *
 clear d0 f0 HX2 HR2
 refine wp_region_lit ?_
 refine ldR rfl (.tmp 4) rfl (by rfl) (HX.out.at_ 0 rfl) ?_
 refine stR rfl (.tmp 8) (.tmp 18) rfl (by rfl) _ _ (by rfl) (HX.out.at_ 1 rfl) rfl ?_
 intro w9 hB ht
 have HX := lh (HX.out.put 1 rfl hB ht)
 have HR := lh (HR.out.box (HX.out.mem 1 rfl) ht)
 clear hB ht
 go_wp2_with fail
 exact bodyPost_ret (v := .agg (rrCells _ _).toArray) (results_c Tryz.results202 _ (by rfl) (HX.out.at_ 1 rfl).range Tryz.underlying217 rfl rrI) rfl ⟨_, rfl, HR.out.unbox (fun k hk => HX.out.klim k (.inl hk)), HX.out.t⟩
theorem crd_flat (kind sq : Int) (self : Bool) (d : ByteArray) : Cn.crd s (Cn.unit_ kind sq self d) = ⟨kind, sq, if Cn.has kind = true then s.credit else 0, 0, 0, none, 0, 0, self, d⟩ := by
 unfold Cn.crd
 show (if Cn.has kind = true then _ else _) = _
 split <;> rfl
theorem rout_any (h : RIn K n w P r) (hn : n <= 90) (kind sq : Int) (self : Bool) (d : ByteArray) :
  Calls Tryz.prog 190 #[rcV s, rrV P r, .int .i64 kind, .int .i64 sq, .bool self, .string d] w (RPost1 K (n + 1) (Cn.out (s, r) (Cn.unit_ kind sq self d)).2 w) := by
 show Calls _ _ #[.agg (rcCells s).toArray, .agg (rrCells P r).toArray, .int .i64 kind, .int .i64 sq, .bool self, .string d] _ (RPost1 K (n + 1) { r with units := r.units ++ [Cn.crd s (Cn.unit_ kind sq self d)] } w)
 rw [crd_flat]
 have hl := h.l2
 generalize hz : (if Cn.has kind = true then s.credit else 0) = z
 have HZ := lh hz
 clear hz
 obtain ⟨w1, hw1⟩ := xq ((((w.alloc (.cells (rcCells s).toArray 29)).alloc (.cells (rrCells P r).toArray 217)).alloc (.cells #[.slice none 0 0, .slice none 0 0, .bool false, .bool false, .int .i64 0, .int .i64 0] 217)))
 have HX : Hid (FB K [w.heap.size, w.heap.size + 1, w.heap.size + 1 + 1] w w1 [⟨w.heap.size, 29, (rcCells s)⟩, ⟨w.heap.size + 1, 217, (rrCells P r)⟩, ⟨w.heap.size + 1 + 1, 217, rrZ⟩]) := by rw [hw1]; exact ((((FB.nil w h.lim).al _ (rcCells s) (w.heap.size) (by simp)).al _ (rrCells P r) (w.heap.size + 1) (by simp)).al _ rrZ (w.heap.size + 1 + 1) (by simp))
 have HR := lh (h.boxed HX.out (by rw [hw1]; exact ((((Touch.refl _ _).alloc _).alloc _).alloc _)))
 clear h
 go_enter Tryz.func190, Tryz.ntmps190
 go_upto_region 1 with (fail)
 rw [<- hw1]
 clear hw1
 generalize w.heap.size = g at *
 have c0 : w1.cell? ⟨g + 1, 1, none⟩ = some (.slice P.A2 r.units.length P.c2) := (HX.out.at_ 1 rfl).cell 1
 have c1 : w1.cell? ⟨g, 1, none⟩ = some (.int .i64 s.credit) := (HX.out.at_ 0 rfl).cell 1
 go_upto_region 2 with (fail)
 go_cut [35] (fun v wx => v = .bool (Cn.has kind) ∧ wx = w1)
 case first =>
  have HH : Hid (Cn.has kind = (kind == 1 || kind == 2 || kind == 5 || kind == 6 || kind == 9 || kind == 15)) := rfl
  clear HX HR c0 c1
  by_cases e1 : kind = 1
  ·subst e1; go_wp2; go_meet; case rel => exact ⟨rfl, rfl⟩
  have b1 : (kind == 1) = false := by simpa using e1
  by_cases e2 : kind = 2
  ·subst e2; go_wp2; go_meet; case rel => exact ⟨rfl, rfl⟩
  have b2 : (kind == 2) = false := by simpa using e2
  by_cases e5 : kind = 5
  ·subst e5; go_wp2; go_meet; case rel => exact ⟨rfl, rfl⟩
  have b5 : (kind == 5) = false := by simpa using e5
  by_cases e6 : kind = 6
  ·subst e6; go_wp2; go_meet; case rel => exact ⟨rfl, rfl⟩
  have b6 : (kind == 6) = false := by simpa using e6
  by_cases e9 : kind = 9
  ·subst e9; go_wp2; go_meet; case rel => exact ⟨rfl, rfl⟩
  have b9 : (kind == 9) = false := by simpa using e9
  have HH2 : Hid (Cn.has kind = (kind == 15)) := by show _ = _; rw [HH.out, b1, b2, b5, b6, b9]; rfl
  clear HH e1 e2 e5 e6 e9
  go_wp2
  go_meet
  case rel => exact ⟨congrArg Value.bool HH2.out.symm, rfl⟩
 case rest =>
  obtain ⟨rfl, rfl⟩ := hcut
  generalize wc = w1 at *
  go_upto_if 35 with (fail)
  go_cut [13] (fun v wx => v = .int .i64 z ∧ wx = w1)
  case first =>
   generalize Cn.has kind = hk at *
   cases hk
   ·have hz : (0 : Int) = z := HZ.out
    subst hz
    clear HZ
    go_wp2
    go_meet
    case rel => exact ⟨rfl, rfl⟩
   ·have hz : s.credit = z := HZ.out
    subst hz
    clear HZ
    go_wp2
    go_meet
    case rel => exact ⟨rfl, rfl⟩
  case rest =>
  obtain ⟨rfl, rfl⟩ := hcut
  clear c1
  generalize wc = w1 at *
  go_upto_region 5 with (at_builtin; refine app_runit rfl rfl (l := r.units) (l2 := [⟨kind, sq, z, 0, 0, none, 0, 0, self, d⟩]) rfl rfl (HR.out.units.alloc _) (Sl.rd (Sl.lit runitE w1 _ rfl _ [⟨kind, sq, z, 0, 0, none, 0, 0, self, d⟩] rfl _ rfl (by decide))) (by simp; omega) ?_; intro A3 c3 L3 w2 hL3 hs2 ht2 hA2; obtain ⟨hr2, t2⟩ := HR.out.sent ((Touch.refl _ w1).alloc _) hL3.out hs2 ht2 hA2; have HX2 := lh (HX.out.act t2); have HR2 := lh hr2; have d0 : w2.cell? ⟨g + 1, 1, none⟩ = some (.slice P.A2 r.units.length P.c2) := (HX2.out.at_ 1 rfl).cell 1; have f0 : w2.frozen? ⟨g + 1, 1, none⟩ = false := (HX2.out.at_ 1 rfl).frozen 1; clear hr2 t2 hs2 ht2 hA2 c0)
  obtain rfl := hL3.out
  have HX : Hid (FB K [g, g + 1, g + 1 + 1] w (w2.setCell ⟨g + 1, 1, none⟩ (.slice A3 (r.units ++ [(⟨kind, sq, z, 0, 0, none, 0, 0, self, d⟩ : Cn.Pd)]).length c3)) [⟨g, 29, rcCells s⟩, ⟨g + 1, 217, rrCells { P with A2 := A3, c2 := c3 } { r with units := r.units ++ [(⟨kind, sq, z, 0, 0, none, 0, 0, self, d⟩ : Cn.Pd)] }⟩, ⟨g + 1 + 1, 217, rrZ⟩]) := HX2.out.put1 1 rfl 1 (.slice A3 (r.units ++ [(⟨kind, sq, z, 0, 0, none, 0, 0, self, d⟩ : Cn.Pd)]).length c3)
  have HR := lh (HR2.out.box (HX2.out.mem 1 rfl) (Touch.set1 w2 (g + 1) 1 (.slice A3 (r.units ++ [(⟨kind, sq, z, 0, 0, none, 0, 0, self, d⟩ : Cn.Pd)]).length c3)))
  generalize w2.setCell ⟨g + 1, 1, none⟩ (.slice A3 (r.units ++ [(⟨kind, sq, z, 0, 0, none, 0, 0, self, d⟩ : Cn.Pd)]).length c3) = w3 at *
  clear d0 f0 HX2 HR2
  refine wp_region_lit ?_
  refine ldR rfl (.tmp 7) rfl (by rfl) (HX.out.at_ 1 rfl) ?_
  refine stR rfl (.tmp 12) (.tmp 49) rfl (by rfl) _ _ (by rfl) (HX.out.at_ 2 rfl) rfl ?_
  intro w9 hB ht
  have HX := lh (HX.out.put 2 rfl hB ht)
  have HR := lh (HR.out.box (HX.out.mem 2 rfl) ht)
  clear hB ht
  go_wp2_with fail
  exact bodyPost_ret (v := .agg (rrCells _ _).toArray) (results_c Tryz.results190 _ (by rfl) (HX.out.at_ 2 rfl).range Tryz.underlying217 rfl rrI) rfl ⟨_, rfl, HR.out.unbox (fun k hk => HX.out.klim k (.inl hk)), HX.out.t⟩
end
namespace Cn
def toT (x : SR) (st t : Int) : SR := let y := Cn.to x st; (y.1, { y.2 with timer := if t = 0 then y.2.timer else t })
end Cn
section
variable {K : Nat -> Prop} {n : Nat} {w : World} {P : RP} {s : Cn.S} {r : Cn.R}
theorem rto_any (h : RIn K n w P r) (st t : Int) :
  Calls Tryz.prog 192 #[rcV s, rrV P r, .int .i64 st, .int .i64 t] w (RPost K n (Cn.toT (s, r) st t) w) := by
 show Calls _ _ #[.agg (rcCells s).toArray, .agg (rrCells P r).toArray, .int .i64 st, .int .i64 t] _ (RPost K n ({ s with state := st }, { r with ends := r.ends || s.state == 10, timer := if t = 0 then r.timer else t }) w)
 generalize hE : (r.ends || s.state == 10) = E
 generalize hT : (if t = 0 then r.timer else t) = T
 have HE := lh hE
 have HT := lh hT
 clear hE hT
 obtain ⟨w1, hw1⟩ := xq (((((w.alloc (.cells (rcCells s).toArray 29)).alloc (.cells (rrCells P r).toArray 217)).alloc (.cells #[.int .i64 0, .int .i64 0, .int .i64 0, .int .i64 0, .int .i64 0, .int .i64 0, .int .i64 0, .string { data := #[] }] 29)).alloc (.cells #[.slice none 0 0, .slice none 0 0, .bool false, .bool false, .int .i64 0, .int .i64 0] 217)))
 have HX : Hid (FB K [w.heap.size, w.heap.size + 1, w.heap.size + 1 + 1, w.heap.size + 1 + 1 + 1] w w1 [⟨w.heap.size, 29, (rcCells s)⟩, ⟨w.heap.size + 1, 217, (rrCells P r)⟩, ⟨w.heap.size + 1 + 1, 29, rcZ⟩, ⟨w.heap.size + 1 + 1 + 1, 217, rrZ⟩]) := by rw [hw1]; exact (((((FB.nil w h.lim).al _ (rcCells s) (w.heap.size) (by simp)).al _ (rrCells P r) (w.heap.size + 1) (by simp)).al _ rcZ (w.heap.size + 1 + 1) (by simp)).al _ rrZ (w.heap.size + 1 + 1 + 1) (by simp))
 have HR := lh (h.boxed HX.out (by rw [hw1]; exact (((((Touch.refl _ _).alloc _).alloc _).alloc _).alloc _)))
 clear h
 go_enter Tryz.func192, Tryz.ntmps192
 go_upto_region 1 with (fail)
 rw [<- hw1]
 clear hw1
 generalize w.heap.size = g at *
 have c0 : w1.cell? ⟨g, 2, none⟩ = some (.int .i64 s.state) := (HX.out.at_ 0 rfl).cell 2
 have f0 : w1.frozen? ⟨g, 2, none⟩ = false := (HX.out.at_ 0 rfl).frozen 2
 have c1 : w1.cell? ⟨g + 1, 3, none⟩ = some (.bool r.ends) := (HX.out.at_ 1 rfl).cell 3
 have f1 : w1.frozen? ⟨g + 1, 3, none⟩ = false := (HX.out.at_ 1 rfl).frozen 3
 go_upto_if 12 with (fail)
 go_cut [] (fun wx => Hid (FB K [g, g + 1, g + 1 + 1, g + 1 + 1 + 1] w wx [⟨g, 29, rcCells s⟩, ⟨g + 1, 217, rrCells P { r with ends := E }⟩, ⟨g + 1 + 1, 29, rcZ⟩, ⟨g + 1 + 1 + 1, 217, rrZ⟩]) ∧ Hid (RIn (KB K [g, g + 1, g + 1 + 1, g + 1 + 1 + 1]) n wx P { r with ends := E }))
 case first =>
  cases hb : (s.state == 10)
  ·have he : r.ends = E := by rw [<- HE.out, hb, Bool.or_false]
   subst he
   go_wp2
   go_meet
   case rel => exact ⟨HX.out, HR.out⟩
  ·have he : true = E := by rw [<- HE.out, hb, Bool.or_true]
   subst he
   have HX2 := lh (HX.out.put1 1 rfl 3 (.bool true))
   have HR2 := lh ((HR.out.box (HX.out.mem 1 rfl) (Touch.set1 w1 (g + 1) 3 (.bool true))).eq (r' := { r with ends := true }) rfl rfl)
   go_wp2
   go_meet
   case rel => exact ⟨HX2.out, HR2.out⟩
 case rest =>
 obtain ⟨HX3, HR3⟩ := hcut
 clear c0 c1 f0 f1 HX HR
 generalize wc = w2 at *
 have f0 : w2.frozen? ⟨g, 2, none⟩ = false := (HX3.out.at_ 0 rfl).frozen 2
 have c0 : w2.cell? ⟨g, 2, none⟩ = some (.int .i64 s.state) := (HX3.out.at_ 0 rfl).cell 2
 go_upto_region 4 with (fail)
 have HX : Hid (FB K [g, g + 1, g + 1 + 1, g + 1 + 1 + 1] w (w2.setCell ⟨g, 2, none⟩ (.int .i64 st)) [⟨g, 29, rcCells { s with state := st }⟩, ⟨g + 1, 217, rrCells P { r with ends := E }⟩, ⟨g + 1 + 1, 29, rcZ⟩, ⟨g + 1 + 1 + 1, 217, rrZ⟩]) := HX3.out.put1 0 rfl 2 (.int .i64 st)
 have HR := lh (HR3.out.box (HX3.out.mem 0 rfl) (Touch.set1 w2 g 2 (.int .i64 st)))
 generalize w2.setCell ⟨g, 2, none⟩ (.int .i64 st) = w3 at *
 clear f0 c0 HX3 HR3
 have f1 : w3.frozen? ⟨g + 1, 5, none⟩ = false := (HX.out.at_ 1 rfl).frozen 5
 have c1 : w3.cell? ⟨g + 1, 5, none⟩ = some (.int .i64 r.timer) := (HX.out.at_ 1 rfl).cell 5
 go_upto_if 17 with (fail)
 go_cut [] (fun wx => Hid (FB K [g, g + 1, g + 1 + 1, g + 1 + 1 + 1] w wx [⟨g, 29, rcCells { s with state := st }⟩, ⟨g + 1, 217, rrCells P { r with ends := E, timer := T }⟩, ⟨g + 1 + 1, 29, rcZ⟩, ⟨g + 1 + 1 + 1, 217, rrZ⟩]) ∧ Hid (RIn (KB K [g, g + 1, g + 1 + 1, g + 1 + 1 + 1]) n wx P { r with ends := E, timer := T }))
 case first =>
  by_cases ht : t = 0
  ·have he : r.timer = T := by rw [<- HT.out, if_pos ht]
   subst he ht
   go_wp2
   go_meet
   case rel => exact ⟨HX.out, HR.out⟩
  ·have he : t = T := by rw [<- HT.out, if_neg ht]
   subst he
   have hb : (t != 0) = true := by simpa using ht
   have HX2 := lh (HX.out.put1 1 rfl 5 (.int .i64 t))
   have HR2 := lh ((HR.out.box (HX.out.mem 1 rfl) (Touch.set1 w3 (g + 1) 5 (.int .i64 t))).eq (r' := { r with ends := E, timer := t }) rfl rfl)
   clear ht
   go_wp2
   go_meet
   case rel => exact ⟨HX2.out, HR2.out⟩
 case rest =>
 obtain ⟨HX4, HR4⟩ := hcut
 clear HX HR f1 c1
 generalize wc = w4 at *
 have HX := HX4
 have HR := HR4
 clear HX4 HR4
 go_upto_region 6 with (fail)
 refine Dag.ret2 (s1 := 20) (s2 := 21) (x1 := 4) (x2 := 5) (y1 := 8) (y2 := 9) (by kernel_rfl) _ _ _ _ rfl rfl rfl rfl rfl rfl rfl rfl rfl rfl rfl rfl (by decide +kernel) (by decide +kernel) (by decide +kernel) ⟨by decide, Nat.le_of_ble_eq_true rfl, Nat.le_of_ble_eq_true rfl, by decide, by decide, by decide, by decide⟩ rfl rfl rfl rfl (HX.out.at_ 0 rfl) (HX.out.at_ 1 rfl) (HX.out.at_ 2 rfl) (HX.out.at_ 3 rfl) ⟨⟨by simp; try omega, by simp; try omega⟩, ⟨by simp; try omega, by simp; try omega⟩, by simp; try omega⟩ rfl rfl Tryz.underlying29 rfl rcI Tryz.underlying217 rfl rrI (rcO _) (rrO _ _) ?_
 intro w9 hB1 hB2 ht
 have HX := lh (HX.out.put2 2 3 rfl rfl (by decide) hB1 hB2 ht)
 have HR := lh (HR.out.touch ht (fun k e => .inr (by rcases e with rfl | rfl <;> simp)))
 clear hB1 hB2 ht
 go_wp2_with fail
 exact bodyPost_ret (v := .tuple #[.agg (rcCells _).toArray, .agg (rrCells _ _).toArray]) (results_cc Tryz.results192 _ (by rfl) (HX.out.at_ 2 rfl).range Tryz.underlying29 rfl rcI (by rfl) (HX.out.at_ 3 rfl).range Tryz.underlying217 rfl rrI) rfl ⟨_, rfl, HR.out.unbox (fun k hk => HX.out.klim k (.inl hk)), HX.out.t⟩
theorem rready_any (h : RIn K n w P r) :
  Calls Tryz.prog 191 #[rcV s, rrV P r] w (RPost K n (Cn.ready (s, r)) w) := by
 show Calls _ _ #[.agg (rcCells s).toArray, .agg (rrCells P r).toArray] _ _
 obtain ⟨y, hy⟩ := xq (Cn.toT (s, r) 10 2)
 have HY : Hid (Cn.ready (s, r) = (y.1, { y.2 with begins := true, ms := y.1.ms })) := by rw [hy]; rfl
 have HTO : Hid (∀ W K', RIn K' n W P r -> Calls Tryz.prog 192 #[.agg (rcCells s).toArray, .agg (rrCells P r).toArray, .int .i64 10, .int .i64 2] W (RPost K' n y W)) := fun W K' hW => by rw [hy]; exact rto_any hW 10 2
 rw [HY.out]
 clear hy HY
 obtain ⟨w1, hw1⟩ := xq (((((w.alloc (.cells (rcCells s).toArray 29)).alloc (.cells (rrCells P r).toArray 217)).alloc (.cells #[.int .i64 0, .int .i64 0, .int .i64 0, .int .i64 0, .int .i64 0, .int .i64 0, .int .i64 0, .string { data := #[] }] 29)).alloc (.cells #[.slice none 0 0, .slice none 0 0, .bool false, .bool false, .int .i64 0, .int .i64 0] 217)))
 have HX : Hid (FB K [w.heap.size, w.heap.size + 1, w.heap.size + 1 + 1, w.heap.size + 1 + 1 + 1] w w1 [⟨w.heap.size, 29, (rcCells s)⟩, ⟨w.heap.size + 1, 217, (rrCells P r)⟩, ⟨w.heap.size + 1 + 1, 29, rcZ⟩, ⟨w.heap.size + 1 + 1 + 1, 217, rrZ⟩]) := by rw [hw1]; exact (((((FB.nil w h.lim).al _ (rcCells s) (w.heap.size) (by simp)).al _ (rrCells P r) (w.heap.size + 1) (by simp)).al _ rcZ (w.heap.size + 1 + 1) (by simp)).al _ rrZ (w.heap.size + 1 + 1 + 1) (by simp))
 have HR := lh (h.boxed HX.out (by rw [hw1]; exact (((((Touch.refl _ _).alloc _).alloc _).alloc _).alloc _)))
 clear h
 go_enter Tryz.func191, Tryz.ntmps191
 go_upto_region 1 with (fail)
 rw [<- hw1]
 clear hw1
 generalize w.heap.size = g at *
 go_upto_region 2 with (first
  |(refine ldC rfl (.tmp 2) rfl (by rfl) (HX.out.at_ 0 rfl) ?_)
  |(refine ldR rfl (.tmp 3) rfl (by rfl) (HX.out.at_ 1 rfl) ?_)
  |(go_at_call 192; refine (HTO.out _ _ HR.out).mono ?_; rintro e w2 ⟨P2, rfl, hr, ht⟩; have HX := lh (HX.out.act ht); have HR := lh hr; clear hr ht)
  |(refine stC rfl (.tmp 2) (.tmp 10) rfl (by rfl) y.1 (by rfl) (HX.out.at_ 0 rfl) rfl ?_; intro w3 hB ht; have HX := lh (HX.out.put 0 rfl hB ht); have HR := lh (HR.out.box (HX.out.mem 0 rfl) ht); clear hB ht)
  |(refine stR rfl (.tmp 3) (.tmp 11) rfl (by rfl) P2 y.2 (by rfl) (HX.out.at_ 1 rfl) rfl ?_; intro w4 hB ht; have HX := lh (HX.out.put 1 rfl hB ht); have HR := lh (HR.out.box (HX.out.mem 1 rfl) ht); clear hB ht))
 have f2 : w4.frozen? ⟨g + 1, 2, none⟩ = false := (HX.out.at_ 1 rfl).frozen 2
 have c2 : w4.cell? ⟨g + 1, 2, none⟩ = some (.bool y.2.begins) := (HX.out.at_ 1 rfl).cell 2
 go_upto_region 3 with (fail)
 have HX := lh (HX.out.put1 1 rfl 2 (.bool true))
 have HR := lh (HR.out.box (HX.out.mem 1 rfl) (Touch.set1 w4 (g + 1) 2 (.bool true)))
 generalize w4.setCell ⟨g + 1, 2, none⟩ (.bool true) = w5 at *
 clear f2 c2
 have c6 : w5.cell? ⟨g, 6, none⟩ = some (.int .i64 y.1.ms) := (HX.out.at_ 0 rfl).cell 6
 have f4 : w5.frozen? ⟨g + 1, 4, none⟩ = false := (HX.out.at_ 1 rfl).frozen 4
 have c4 : w5.cell? ⟨g + 1, 4, none⟩ = some (.int .i64 y.2.ms) := (HX.out.at_ 1 rfl).cell 4
 go_upto_region 4 with (fail)
 have HX2 := lh (HX.out.put1 1 rfl 4 (.int .i64 y.1.ms))
 have HR2 := lh (HR.out.box (HX.out.mem 1 rfl) (Touch.set1 w5 (g + 1) 4 (.int .i64 y.1.ms)))
 generalize w5.setCell ⟨g + 1, 4, none⟩ (.int .i64 y.1.ms) = w6 at *
 clear c6 f4 c4
 have HX : Hid (FB K [g, g + 1, g + 1 + 1, g + 1 + 1 + 1] w w6 [⟨g, 29, rcCells y.1⟩, ⟨g + 1, 217, rrCells P2 { y.2 with begins := true, ms := y.1.ms }⟩, ⟨g + 1 + 1, 29, rcZ⟩, ⟨g + 1 + 1 + 1, 217, rrZ⟩]) := HX2.out
 have HR : Hid (RIn (KB K [g, g + 1, g + 1 + 1, g + 1 + 1 + 1]) n w6 P2 { y.2 with begins := true, ms := y.1.ms }) := HR2.out.eq rfl rfl
 clear HX2 HR2
 refine Dag.ret2 (s1 := 16) (s2 := 17) (x1 := 2) (x2 := 3) (y1 := 4) (y2 := 5) (by kernel_rfl) _ _ _ _ rfl rfl rfl rfl rfl rfl rfl rfl rfl rfl rfl rfl (by decide +kernel) (by decide +kernel) (by decide +kernel) ⟨by decide, Nat.le_of_ble_eq_true rfl, Nat.le_of_ble_eq_true rfl, by decide, by decide, by decide, by decide⟩ rfl rfl rfl rfl (HX.out.at_ 0 rfl) (HX.out.at_ 1 rfl) (HX.out.at_ 2 rfl) (HX.out.at_ 3 rfl) ⟨⟨by simp; try omega, by simp; try omega⟩, ⟨by simp; try omega, by simp; try omega⟩, by simp; try omega⟩ rfl rfl Tryz.underlying29 rfl rcI Tryz.underlying217 rfl rrI (rcO _) (rrO _ _) ?_
 intro w9 hB1 hB2 ht
 have HX := lh (HX.out.put2 2 3 rfl rfl (by decide) hB1 hB2 ht)
 have HR := lh (HR.out.touch ht (fun k e => .inr (by rcases e with rfl | rfl <;> simp)))
 clear hB1 hB2 ht
 go_wp2_with fail
 exact bodyPost_ret (v := .tuple #[.agg (rcCells _).toArray, .agg (rrCells _ _).toArray]) (results_cc Tryz.results191 _ (by rfl) (HX.out.at_ 2 rfl).range Tryz.underlying29 rfl rcI (by rfl) (HX.out.at_ 3 rfl).range Tryz.underlying217 rfl rrI) rfl ⟨_, rfl, HR.out.unbox (fun k hk => HX.out.klim k (.inl hk)), HX.out.t⟩
end
set_option maxRecDepth 20000
set_option linter.constructorNameAsVariable false

structure Rn where
 y0 : Int
 y1 : Int
 y2 : Int
 y3 : Int
 y4 : Int
 y5 : Int
 T : Option Addr
 cT : Nat
 s : Cn.S
 L : Option Addr
 cL : Nat
 a0 : Int
 a1 : Int
 a2 : Int
 a3 : Int
 a4 : Int
 a5 : Int
 a6 : Int
 a7 : Int
 r0 : Int
 r1 : Int
 r2 : Int
 r3 : Int
 C : Option Addr
 nC : Nat
 cC : Nat
def Rn.cells (x : Rn) : List Value := [.int .i64 x.y0, .int .i64 x.y1, .int .i64 x.y2, .int .i64 x.y3, .int .i64 x.y4, .int .i64 x.y5, .slice x.T 5 x.cT,
 .int .i64 x.s.most, .int .i64 x.s.credit, .int .i64 x.s.state, .int .i64 x.s.sq, .int .i64 x.s.peer, .int .i64 x.s.cc, .int .i64 x.s.ms, .string x.s.data,
 .slice x.T 5 x.cT, .slice x.L 5 x.cL,
 .int .i64 x.a0, .int .i64 x.a1, .int .i64 x.a2, .int .i64 x.a3, .int .i64 x.a4, .int .i64 x.a5, .int .i64 x.a6, .int .i64 x.a7, .slice none 0 0, .slice none 0 0, .slice none 0 0, .slice none 0 0,
 .int .i64 x.r0, .int .i64 x.r1, .int .i64 x.r2, .int .i64 x.r3, .slice none 0 0, .slice none 0 0, .slice none 0 0,
 .slice x.C x.nC x.cC, .slice none 0 0, .bool false, .bool false, .int .i64 0, .bool false, .slice none 0 0]
theorem rnI : (Tryz.prog.info? 40).map (·.size) = some 43 := by kernel_rfl
theorem rnO (x : Rn) : ∀ v ∈ x.cells, v.oneCell' = true := by simp [Rn.cells, Value.oneCell']
def rnZ : List Value := [.int .i64 0, .int .i64 0, .int .i64 0, .int .i64 0, .int .i64 0, .int .i64 0, .slice none 0 0,
 .int .i64 0, .int .i64 0, .int .i64 0, .int .i64 0, .int .i64 0, .int .i64 0, .int .i64 0, .string { data := #[] }, .slice none 0 0, .slice none 0 0,
 .int .i64 0, .int .i64 0, .int .i64 0, .int .i64 0, .int .i64 0, .int .i64 0, .int .i64 0, .int .i64 0, .slice none 0 0, .slice none 0 0, .slice none 0 0, .slice none 0 0,
 .int .i64 0, .int .i64 0, .int .i64 0, .int .i64 0, .slice none 0 0, .slice none 0 0, .slice none 0 0,
 .slice none 0 0, .slice none 0 0, .bool false, .bool false, .int .i64 0, .bool false, .slice none 0 0]
section
variable {ops : Array Oper} {rest : List Oper} {op : Oper} {a : Act} {w : World} {Q : Exit -> Act -> World -> Prop}
theorem ldN (hgd : op.guard = none) (x : Operand) (ho : op.op = .load 40 x) {b : Nat} (hx : a.eval x = .pointer (some ⟨b, 0, none⟩)) {y : Rn} (hB : Blk w b 40 y.cells) (h : wpList Tryz.prog ops Q rest (a.put op.dst (.agg y.cells.toArray)) w) : wpList Tryz.prog ops Q (op :: rest) a w :=
 wpList_loadB hgd _ x ho b 0 hx _ hB.range Tryz.underlying40 rfl rnI h
theorem stN (hgd : op.guard = none) (x y : Operand) (ho : op.op = .store 40 x y) {b : Nat} (hx : a.eval x = .pointer (some ⟨b, 0, none⟩)) (z : Rn) (hy : a.eval y = .agg z.cells.toArray) {old : List Value} (hB : Blk w b 40 old) (hl : old.length = 43) (h : ∀ w', Blk w' b 40 z.cells -> Touch (· = b) w w' -> wpList Tryz.prog ops Q rest (a.put op.dst undef) w') : wpList Tryz.prog ops Q (op :: rest) a w :=
 wpList_storeB hgd _ x y ho b 0 hx _ hy hB (Nat.le_of_eq hl.symm) rnI (rnO z) fun w' h1 h2 => h w' (h1.eq_cells (by rw [List.take_zero, List.nil_append, show 0 + z.cells.length = 43 from rfl, List.drop_eq_nil_of_le (Nat.le_of_eq hl), List.append_nil])) h2
end
theorem rready_any16 (x : Rn) (b : Bool) (hb : (x.s.state == 10) = b) (w : World) : Calls Tryz.prog 123 #[.agg x.cells.toArray] w fun e w' => e = .returned (.bool b) ∧ Fresh w w' := by
 obtain ⟨w1, hw1⟩ := xq (w.alloc (.cells x.cells.toArray 40))
 have HB : Hid (Blk w1 w.heap.size 40 x.cells) := by rw [hw1]; exact Blk.new w _ _
 have HF : Hid (Fresh w w1) := by rw [hw1]; exact (Touch.refl _ _).alloc _
 obtain ⟨st, hst⟩ := qx x.s.state
 have d9 : w1.cell? ⟨w.heap.size, 9, none⟩ = some (.int .i64 x.s.state) := HB.out.cell 9
 rw [hst] at d9 hb
 clear hst
 go_enter Tryz.func123, Tryz.ntmps123
 go_upto_region 1 with (fail)
 rw [<- hw1]
 clear hw1
 generalize w.heap.size = g at *
 go_wp2_with fail
 go_ret
 exact ⟨rfl, HF.out⟩
def FF (w : World) (k : Nat) : Prop := k < w.heap.size
theorem FB.ff {w w' : World} {bs : List Nat} {L : List Bx} (h : FB (FF w) bs w w' L) : Fresh w w' := h.t.mono fun _ hk e => e hk
theorem rcredit_any16 (x : Rn) (A : Option Addr) (n c : Nat) (w : World) : Calls Tryz.prog 126 #[.agg x.cells.toArray, .slice A n c] w fun e w' => e = .returned (.tuple #[.agg x.cells.toArray, .slice A n c]) ∧ Fresh w w' := by
 obtain ⟨w1, hw1⟩ := xq ((w.alloc (.cells x.cells.toArray 40)).alloc (.cells rnZ.toArray 40))
 have HX : Hid (FB (FF w) [w.heap.size, w.heap.size + 1] w w1 [⟨w.heap.size, 40, x.cells⟩, ⟨w.heap.size + 1, 40, rnZ⟩]) := by rw [hw1]; exact ((FB.nil w (fun k e => e)).al _ x.cells _ (by simp)).al _ rnZ _ (by simp)
 unfold rnZ at hw1
 obtain ⟨b, hb⟩ := qx ((x.s.state == 10))
 have HRD := lh (rready_any16 x b hb)
 clear hb
 go_enter Tryz.func126, Tryz.ntmps126
 go_upto_region 1 with (fail)
 rw [<- hw1]
 clear hw1
 generalize w.heap.size = g at *
 refine wp_region_lit ?_
 refine ldN rfl (.tmp 2) rfl (by rfl) (HX.out.at_ 0 rfl) ?_
 cases b
 all_goals
  go_wp2_with fail
  refine (HRD.out _).mono ?_
  rintro e w2 ⟨rfl, f2⟩
  have HX := lh (HX.out.fresh f2)
  clear f2
  have d25 : w2.cell? ⟨g, 25, none⟩ = some (.slice none 0 0) := (HX.out.at_ 0 rfl).cell 25
  have d41 : w2.cell? ⟨g, 41, none⟩ = some (.bool false) := (HX.out.at_ 0 rfl).cell 41
  have f41 : w2.frozen? ⟨g, 41, none⟩ = false := (HX.out.at_ 0 rfl).frozen 41
  simp only
  go_upto_region 7 with (fail)
  have HX := lh (HX.out.put1 0 rfl 41 (.bool false))
  clear d25 d41 f41
  generalize w2.setCell ⟨g, 41, none⟩ (.bool false) = w3 at *
  refine wp_region_lit ?_
  refine ldN rfl (.tmp 2) rfl (by rfl) (y := x) (HX.out.at_ 0 rfl) ?_
  go_wp2_with (refine stN rfl (.tmp 4) (.tmp 47) rfl (by rfl) x (by rfl) (HX.out.at_ 1 rfl) rfl ?_; intro w4 hB ht; have HX := lh (HX.out.put 1 rfl hB ht); clear hB ht)
  exact bodyPost_ret (v := .tuple #[.agg x.cells.toArray, .slice A n c]) (results_ct Tryz.results126 _ (by rfl) (HX.out.at_ 1 rfl).range Tryz.underlying40 rfl rnI) rfl ⟨rfl, HX.out.ff⟩
end Go.Proofs.YtipaobpmojahaaaGreat

/-
  conn: the small functions of an act.
-/
import Derived.Test.YtkmegkjkbalooaaCn
import Derived.RegionTactic
import Derived.ChangeAlike
import Derived.Deep.RegionLaw
import Derived.Deep.QuietTactic
import Derived.BigQuiet
import Derived.StillTailTactics
import Derived.Deep.DeepCutAuto
import Derived.Deep.CutBlock
namespace Go.Proofs.Ytkmegkjkbalooaa
open Go.RowKit

set_option maxHeartbeats 1000000 in
theorem tell_any {K : Nat → Prop} {n : Nat} {w : World} {a c : Nat} {x : Cn.SR} (h : InAct K n w a c x) (hn : n ≤ 90) (s : Cn.Sig) :
    Calls Try.prog 32 #[.pointer (some ⟨a, 0, none⟩), sigV s] w fun e w' => e = .returned (.tuple #[]) ∧ InAct K (n + 1) w' a c (Cn.tell x s) ∧ Touch (OfAct K) w w' := by
  obtain ⟨A1, c1, A2, c2, h⟩ := h
  unfold sigV
  have HA := Lib.hid h
  have hl := h.few.1
  have k1 : ∀ o, (w.alloc o).cell? ⟨a, 1, none⟩ = some (.slice A1 x.2.sigs.length c1) := fun o => (HA.out.blk.alloc o).cell 1
  have k2 : ∀ o o', ((w.alloc o).alloc o').cell? ⟨a, 1, none⟩ = some (.slice A1 x.2.sigs.length c1) := fun o o' => ((HA.out.blk.alloc o).alloc o').cell 1
  clear h
  go_enter Try.func32, Try.ntmps32
  go_wp2
  go_region_law (first
    | (refine stp_sig rfl rfl (l := x.2.sigs) (l2 := [s]) rfl rfl (by exact (HA.out.sigs.alloc _).alloc _) (by exact Sl.rd (Sl.lit sigE (w.alloc _) _ (by simp) _ [s] rfl _ rfl (by decide))) (by simp; omega) ?_; intro A3 c3 L3 w3 hL3 hs3 ht3 hA3
       obtain ⟨I3, T3, q3, z3⟩ := HA.out.told ((((Touch.refl (fun _ => False) w).alloc _).alloc _).drew) hL3.out hs3 ht3 hA3
       have HI3 := Lib.hid I3
       have HT3 := Lib.hid T3
       clear I3 T3 hs3 ht3 hA3 hL3))
  all_goals
    go_wp2
    go_end0
    exact ⟨rfl, ⟨_, _, _, _, HI3.out⟩, HT3.out⟩

set_option maxHeartbeats 1000000 in
theorem to_any' {K : Nat → Prop} {n : Nat} {w : World} {a c : Nat} {x : Cn.SR} (h : InAct K n w a c x) (st : Int) :
    Calls Try.prog 39 #[.pointer (some ⟨a, 0, none⟩), .int .i64 st] w fun e w' => e = .returned (.tuple #[]) ∧ InAct K n w' a c (Cn.to x st) ∧ Touch (OfAct K) w w' := by
  obtain ⟨A1, c1, A2, c2, h⟩ := h
  have HA := Lib.hid h
  have hne : ¬ a = c := fun e => h.ne e.symm
  have hne' : ¬ c = a := h.ne
  have k0 : w.cell? ⟨a, 0, none⟩ = some (.pointer (some ⟨c, 0, none⟩)) := h.blk.cell 0
  have k4 : w.cell? ⟨a, 4, none⟩ = some (.bool x.2.ends) := h.blk.cell 4
  have s2 : w.cell? ⟨c, 2, none⟩ = some (.int .i64 x.1.state) := h.conn.cell 2
  have f4 := h.blk.frozen 4
  have f2 := h.conn.frozen 2
  obtain ⟨S1, hS⟩ : ∃ S1, x.1.state = S1 := ⟨_, rfl⟩
  obtain ⟨E1, hE⟩ : ∃ E1, x.2.ends = E1 := ⟨_, rfl⟩
  have HR : Hid (∀ b, (E1 || S1 == 10) = b → InAct K n ((w.setCell ⟨a, 4, none⟩ (.bool b)).setCell ⟨c, 2, none⟩ (.int .i64 st)) a c (Cn.to x st) ∧ Touch (OfAct K) w ((w.setCell ⟨a, 4, none⟩ (.bool b)).setCell ⟨c, 2, none⟩ (.int .i64 st))) := by
    intro b hb
    rw [← hE, ← hS] at hb
    subst hb
    exact ⟨⟨_, _, _, _, (h.act1 (r := { x.2 with ends := x.2.ends || x.1.state == 10 }) 4 (.bool (x.2.ends || x.1.state == 10)) rfl rfl rfl).conn1 (s := { x.1 with state := st }) 2 (.int .i64 st) rfl ⟨h.ok.sq0, h.ok.sq1, h.ok.cc0, h.ok.cc1, h.ok.most0, h.ok.most1⟩⟩, ((Touch.refl _ _).st h.na).st h.nc⟩
  rw [hE] at k4
  rw [hS] at s2
  clear h hS hE
  cases E1
  · by_cases h10 : S1 = 10
    · subst h10
      have HX := Lib.hid (HR.out true rfl)
      clear HR
      go_enter Try.func39, Try.ntmps39
      go_wp2
      go_end0
      exact ⟨rfl, HX.out⟩
    · have hb : (S1 == 10) = false := by simpa using h10
      have HX := Lib.hid (HR.out false (by rw [hb]; rfl))
      clear HR
      go_enter Try.func39, Try.ntmps39
      go_wp2
      go_end0
      exact ⟨rfl, HX.out⟩
  · have HX := Lib.hid (HR.out true rfl)
    clear HR
    go_enter Try.func39, Try.ntmps39
    go_wp2
    go_end0
    exact ⟨rfl, HX.out⟩

set_option maxHeartbeats 1000000 in
theorem stop_any {K : Nat → Prop} {n : Nat} {w : World} {a c : Nat} {x : Cn.SR} (h : InAct K n w a c x) (_hn : n ≤ 90) (st : Int) :
    Calls Try.prog 33 #[.pointer (some ⟨a, 0, none⟩), .int .i64 st] w fun e w' => e = .returned (.tuple #[]) ∧ InAct K n w' a c (Cn.stop x st) ∧ Touch (OfAct K) w w' := by
  go_enter Try.func33, Try.ntmps33
  go_wp2_with fail
  refine (to_any' h st).mono ?_
  rintro e w1 ⟨rfl, ⟨A1, c1, A2, c2, h1⟩, t1⟩
  have HT := Lib.hid t1
  have k6 : w1.cell? ⟨a, 6, none⟩ = some (.int .i64 (Cn.to x st).2.timer) := h1.blk.cell 6
  have fk6 := h1.blk.frozen 6
  have HX : Hid (InAct K n (w1.setCell ⟨a, 6, none⟩ (.int .i64 2)) a c (Cn.stop x st) ∧ Touch (OfAct K) w (w1.setCell ⟨a, 6, none⟩ (.int .i64 2))) :=
    ⟨⟨_, _, _, _, h1.act1 (r := { (Cn.to x st).2 with timer := 2 }) 6 (.int .i64 2) rfl rfl rfl⟩, HT.out.st h1.na⟩
  clear h1 t1
  go_wp2
  go_end0
  exact ⟨rfl, HX.out⟩

set_option maxHeartbeats 1000000 in
theorem ready_any {K : Nat → Prop} {n : Nat} {w : World} {a c : Nat} {x : Cn.SR} (h : InAct K n w a c x) (hn : n ≤ 90) :
    Calls Try.prog 42 #[.pointer (some ⟨a, 0, none⟩)] w fun e w' => e = .returned (.tuple #[]) ∧ InAct K n w' a c (Cn.ready x) ∧ Touch (OfAct K) w w' := by
  go_enter Try.func42, Try.ntmps42
  go_wp2_with fail
  refine (stop_any h hn 10).mono ?_
  rintro e w1 ⟨rfl, ⟨A1, c1, A2, c2, h1⟩, t1⟩
  have HT := Lib.hid t1
  have hne : ¬ a = c := fun e => h1.ne e.symm
  have hne' : ¬ c = a := h1.ne
  have k0 : w1.cell? ⟨a, 0, none⟩ = some (.pointer (some ⟨c, 0, none⟩)) := h1.blk.cell 0
  have k3 : w1.cell? ⟨a, 3, none⟩ = some (.bool (Cn.stop x 10).2.begins) := h1.blk.cell 3
  have k5 : w1.cell? ⟨a, 5, none⟩ = some (.int .u32 (Cn.stop x 10).2.ms) := h1.blk.cell 5
  have s6 : w1.cell? ⟨c, 6, none⟩ = some (.int .u32 (Cn.stop x 10).1.ms) := h1.conn.cell 6
  have fk3 := h1.blk.frozen 3
  have fk5 := h1.blk.frozen 5
  have HX : Hid (InAct K n ((w1.setCell ⟨a, 3, none⟩ (.bool true)).setCell ⟨a, 5, none⟩ (.int .u32 (Cn.stop x 10).1.ms)) a c (Cn.ready x) ∧ Touch (OfAct K) w ((w1.setCell ⟨a, 3, none⟩ (.bool true)).setCell ⟨a, 5, none⟩ (.int .u32 (Cn.stop x 10).1.ms))) :=
    ⟨⟨_, _, _, _, (h1.act1 (r := { (Cn.stop x 10).2 with begins := true }) 3 (.bool true) rfl rfl rfl).act1 (r := { (Cn.stop x 10).2 with begins := true, ms := (Cn.stop x 10).1.ms }) 5 (.int .u32 (Cn.stop x 10).1.ms) rfl rfl rfl⟩, (HT.out.st h1.na).st h1.na⟩
  clear h1 t1
  generalize (Cn.stop x 10).1.ms = m at *
  generalize (Cn.stop x 10).2.ms = m2 at *
  generalize (Cn.stop x 10).2.begins = m3 at *
  go_wp2
  go_end0
  exact ⟨rfl, HX.out⟩

set_option maxHeartbeats 1000000 in
theorem report_any {K : Nat → Prop} {n : Nat} {w : World} {a c : Nat} {x : Cn.SR} (h : InAct K n w a c x) (hn : n ≤ 90) (code : Int) :
    Calls Try.prog 22 #[.pointer (some ⟨a, 0, none⟩), .int .u8 code] w fun e w' => e = .returned (.tuple #[]) ∧ InAct K (n + 1) w' a c (Cn.report x code) ∧ Touch (OfAct K) w w' := by
  have HT : Hid (∀ w1, w1 = w → _) := fun w1 (e : w1 = w) => tell_any (e ▸ h) hn ⟨12, ByteArray.empty, false, code, 0⟩
  go_enter Try.func22, Try.ntmps22
  go_wp2_with fail
  refine (HT.out _ rfl).mono ?_
  rintro e w1 ⟨rfl, h1⟩
  have HX := Lib.hid h1
  clear h1
  go_wp2
  go_end0
  exact ⟨rfl, HX.out⟩

set_option maxHeartbeats 1000000 in
theorem out_any {K : Nat → Prop} {n : Nat} {w : World} {a c : Nat} {x : Cn.SR} (h : InAct K n w a c x) (hn : n ≤ 90) (p : Cn.Pd) :
    Calls Try.prog 41 #[.pointer (some ⟨a, 0, none⟩), pduV p] w fun e w' => e = .returned (.tuple #[]) ∧ InAct K (n + 1) w' a c (Cn.out x p) ∧ Touch (OfAct K) w w' := by
  obtain ⟨A1, c1, A2, c2, h⟩ := h
  have HA := Lib.hid h
  have hne : ¬ a = c := fun e => h.ne e.symm
  have hne' : ¬ c = a := h.ne
  unfold pduV
  have hl := h.few.2
  obtain ⟨k, hk⟩ : ∃ k, p.kind = k := ⟨_, rfl⟩
  have b0 : Blk (w.alloc (.cells #[.int .i64 k, .int .i64 p.sq, .int .u32 p.n, .int .u32 p.ps, .int .u32 p.mr, .slice p.lA p.ln p.lc, .bool p.self, .string p.data] 54)) w.heap.size 54 [.int .i64 k, .int .i64 p.sq, .int .u32 p.n, .int .u32 p.ps, .int .u32 p.mr, .slice p.lA p.ln p.lc, .bool p.self, .string p.data] := Blk.new _ _ _
  have HB := Lib.hid b0
  have HF : Hid (Fresh w (w.alloc (.cells #[.int .i64 k, .int .i64 p.sq, .int .u32 p.n, .int .u32 p.ps, .int .u32 p.mr, .slice p.lA p.ln p.lc, .bool p.self, .string p.data] 54))) := (Touch.refl _ w).alloc _
  have HC : Hid (Cn.crd x.1 p = if Cn.has k then { p with n := x.1.credit } else p) := by rw [← hk]; rfl
  rw [hk]
  clear b0 h
  go_enter Try.func41, Try.ntmps41
  go_upto_region 1 with (fail)
  have HG : Hid (∀ ad, w.heap.size ≠ a ∧ w.heap.size ≠ c ∧ (A1 = some ad → ad.block ≠ w.heap.size) ∧ (A2 = some ad → ad.block ≠ w.heap.size)) := fun ad => by
    have h1 := HA.out.blk.lt
    have h2 := HA.out.conn.lt
    exact ⟨by omega, by omega, fun e => by have := HA.out.sigs.lt ad e; omega, fun e => by have := HA.out.units.lt ad e; omega⟩
  have HA1 := Lib.hid (HA.out.old HF.out)
  have HSZ : Hid (w.heap.size ≤ w.heap.size) := Nat.le_refl _
  generalize hw1 : w.alloc (.cells #[.int .i64 k, .int .i64 p.sq, .int .u32 p.n, .int .u32 p.ps, .int .u32 p.mr, .slice p.lA p.ln p.lc, .bool p.self, .string p.data] 54) = w1 at *
  clear hw1
  generalize hg : w.heap.size = g at *
  have HGE := Lib.hid hg
  clear hg
  have c0 : w1.cell? ⟨g, 0, none⟩ = some (.int .i64 k) := HB.out.cell 0
  have c2' : w1.cell? ⟨g, 2, none⟩ = some (.int .u32 p.n) := HB.out.cell 2
  have fg2 := HB.out.frozen 2
  have k0 : w1.cell? ⟨a, 0, none⟩ = some (.pointer (some ⟨c, 0, none⟩)) := HA1.out.blk.cell 0
  have s1 : w1.cell? ⟨c, 1, none⟩ = some (.int .u32 x.1.credit) := HA1.out.conn.cell 1
  go_upto_block 0 with (fail)
  go_cut [] (fun wx => ∃ m : Int, Hid (m = if Cn.has k then x.1.credit else p.n) ∧ Hid (Blk wx g 54 [.int .i64 k, .int .i64 p.sq, .int .u32 m, .int .u32 p.ps, .int .u32 p.mr, .slice p.lA p.ln p.lc, .bool p.self, .string p.data]) ∧ Hid (Touch (· = g) w1 wx))
  case first =>
    have HS : Hid (Blk (w1.setCell ⟨g, 2, none⟩ (.int .u32 x.1.credit)) g 54 [.int .i64 k, .int .i64 p.sq, .int .u32 x.1.credit, .int .u32 p.ps, .int .u32 p.mr, .slice p.lA p.ln p.lc, .bool p.self, .string p.data]) := HB.out.set 2 _
    have HT1 : Hid (Touch (· = g) w1 (w1.setCell ⟨g, 2, none⟩ (.int .u32 x.1.credit))) := Touch.set1 _ _ _ _
    have HT0 : Hid (Touch (· = g) w1 w1) := Touch.refl _ _
    by_cases e1 : k = 1
    · subst e1
      go_wp2
      go_meet
      case rel => exact ⟨_, rfl, HS, HT1⟩
    by_cases e2 : k = 2
    · subst e2
      go_wp2
      go_meet
      case rel => exact ⟨_, rfl, HS, HT1⟩
    by_cases e3 : k = 5
    · subst e3
      go_wp2
      go_meet
      case rel => exact ⟨_, rfl, HS, HT1⟩
    by_cases e4 : k = 6
    · subst e4
      go_wp2
      go_meet
      case rel => exact ⟨_, rfl, HS, HT1⟩
    by_cases e5 : k = 9
    · subst e5
      go_wp2
      go_meet
      case rel => exact ⟨_, rfl, HS, HT1⟩
    by_cases e6 : k = 15
    · subst e6
      go_wp2
      go_meet
      case rel => exact ⟨_, rfl, HS, HT1⟩
    have HN : Hid (Cn.has k = false) := by simp [Hid, Cn.has, e1, e2, e3, e4, e5, e6]
    have b1 : (k == 1) = false := by simpa using e1
    have b2 : (k == 2) = false := by simpa using e2
    have b3 : (k == 5) = false := by simpa using e3
    have b4 : (k == 6) = false := by simpa using e4
    have b5 : (k == 9) = false := by simpa using e5
    have b6 : (k == 15) = false := by simpa using e6
    go_wp2
    go_meet
    case rel => exact ⟨p.n, by unfold Hid; rw [HN.out]; rfl, HB, HT0⟩
  case rest =>
    obtain ⟨m, hm, hb, ht⟩ := hcut
    have HQ : Hid ((⟨k, p.sq, m, p.ps, p.mr, p.lA, p.ln, p.lc, p.self, p.data⟩ : Cn.Pd) = Cn.crd x.1 p) := by
      unfold Hid
      rw [HC.out, hm.out, ← hk]
      split <;> rfl
    have HA2 := Lib.hid (HA1.out.touch ht.out (fun e => (HG.out ⟨0, 0, none⟩).1 e.symm) (fun e => (HG.out ⟨0, 0, none⟩).2.1 e.symm) (fun ad e => (HG.out ad).2.2.1 e) (fun ad e => (HG.out ad).2.2.2 e))
    have HF2 : Hid (Fresh w wc) := HF.out.trans ht.out (fun j hj e => by have := HGE.out; omega)
    have d0 := hb.out.cell 0
    have d1 := hb.out.cell 1
    have d2 := hb.out.cell 2
    have d3 := hb.out.cell 3
    have d4 := hb.out.cell 4
    have d5 := hb.out.cell 5
    have d6 := hb.out.cell 6
    have d7 := hb.out.cell 7
    simp only [List.getElem?_cons_zero, List.getElem?_cons_succ] at d0 d1 d2 d3 d4 d5 d6 d7
    have j1 : ∀ o, (wc.alloc o).cell? ⟨a, 2, none⟩ = some (.slice A2 x.2.units.length c2) := fun o => (HA2.out.blk.alloc o).cell 2
    have j0 : wc.cell? ⟨a, 2, none⟩ = some (.slice A2 x.2.units.length c2) := HA2.out.blk.cell 2
    clear c0 c2' fg2 k0 s1
    go_upto_region 9 with (fail)
    go_region_law (first
      | (refine stp_pdu rfl rfl (l := x.2.units) (l2 := [⟨k, p.sq, m, p.ps, p.mr, p.lA, p.ln, p.lc, p.self, p.data⟩]) rfl rfl (by exact HA2.out.units.alloc _) (by exact Sl.rd (Sl.lit pduE wc _ (by simp) _ [⟨k, p.sq, m, p.ps, p.mr, p.lA, p.ln, p.lc, p.self, p.data⟩] rfl _ rfl (by decide))) (by simp; omega) ?_; intro A3 c3 L3 w3 hL3 hs3 ht3 hA3
         obtain ⟨I3, T3, q3, z3⟩ := HA2.out.sent (((Touch.refl (fun _ => False) wc).alloc _).drew) HQ.out hL3.out hs3 ht3 hA3
         have HI3 := Lib.hid I3
         have HT3 : Hid (Touch (OfAct K) w (w3.setCell ⟨a, 2, none⟩ (.slice A3 L3.length c3))) := (HF2.out.mono (fun _ _ e => e.elim)).trans T3 (fun _ _ e => e)
         clear I3 T3 hs3 ht3 hA3 hL3))
    all_goals
      go_wp2
      go_end0
      exact ⟨rfl, ⟨_, _, _, _, HI3.out⟩, HT3.out⟩
end Go.Proofs.Ytkmegkjkbalooaa

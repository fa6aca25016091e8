/-
  conn: the small functions of an act · conn: the next functions of an act: heard, quit, again, begin, leave · conn: the functions of an act that hear a unit · pdu.Check: conn's units may be.
-/
import Derived.Test.YtipaobpmojahaaaGreatRPdu
import Derived.RegionTactic
import Derived.ChangeAlike
import Derived.Deep.RegionLaw
import Derived.Deep.QuietTactic
import Derived.BigQuiet
import Derived.StillTailTactics
import Derived.Deep.DeepCutAuto
import Derived.Deep.CutBlock
import Derived.LoopTactic
import Derived.Test.YtipaobpmojahaaaGreatEvD
set_option maxHeartbeats 1000000
namespace Go.Proofs.YtipaobpmojahaaaGreat
open Go.RowKit

theorem tell_any {K : Nat -> Prop} {n : Nat} {w : World} {a c : Nat} {x : Cn.SR} (h : InAct K n w a c x) (hn : n <= 90) (s : Cn.Sig) :
  Calls Tryz.prog 113 #[.pointer (some ⟨a, 0, none⟩), sigV s] w fun e w' => e = .returned (.tuple #[]) ∧ InAct K (n + 1) w' a c (Cn.tell x s) ∧ Touch (OfAct K) w w' := by
 obtain ⟨A1, c1, A2, c2, h⟩ := h
 unfold sigV
 have HA := lh h
 have hl := h.few.1
 have k1 : ∀ o, (w.alloc o).cell? ⟨a, 1, none⟩ = some (.slice A1 x.2.sigs.length c1) := fun o => (HA.out.blk.alloc o).cell 1
 have k2 : ∀ o o', ((w.alloc o).alloc o').cell? ⟨a, 1, none⟩ = some (.slice A1 x.2.sigs.length c1) := fun o o' => ((HA.out.blk.alloc o).alloc o').cell 1
 clear h
 go_enter Tryz.func113, Tryz.ntmps113
 go_wp2
 go_region_law (first
  |(refine stp_sig rfl rfl (l := x.2.sigs) (l2 := [s]) rfl rfl (by exact (HA.out.sigs.alloc _).alloc _) (by exact Sl.rd (Sl.lit sigE (w.alloc _) _ (by simp) _ [s] rfl _ rfl (by decide))) (by simp; omega) ?_; intro A3 c3 L3 w3 hL3 hs3 ht3 hA3
    obtain ⟨I3, T3, q3, z3⟩ := HA.out.told ((((Touch.refl (fun _ => False) w).alloc _).alloc _).drew) hL3.out hs3 ht3 hA3
    have HI3 := lh I3
    have HT3 := lh T3
    clear I3 T3 hs3 ht3 hA3 hL3))
 all_goals
  go_wp2
  go_end0
  exact ⟨rfl, ⟨_, _, _, _, HI3.out⟩, HT3.out⟩

theorem to_any' {K : Nat -> Prop} {n : Nat} {w : World} {a c : Nat} {x : Cn.SR} (h : InAct K n w a c x) (st : Int) :
  Calls Tryz.prog 117 #[.pointer (some ⟨a, 0, none⟩), .int .i64 st] w fun e w' => e = .returned (.tuple #[]) ∧ InAct K n w' a c (Cn.to x st) ∧ Touch (OfAct K) w w' := by
 obtain ⟨A1, c1, A2, c2, h⟩ := h
 have HA := lh h
 have hne : ¬ a = c := fun e => h.ne e.symm
 have hne' : ¬ c = a := h.ne
 have k0 : w.cell? ⟨a, 0, none⟩ = some (.pointer (some ⟨c, 0, none⟩)) := h.blk.cell 0
 have k4 : w.cell? ⟨a, 4, none⟩ = some (.bool x.2.ends) := h.blk.cell 4
 have s2 : w.cell? ⟨c, 2, none⟩ = some (.int .i64 x.1.state) := h.conn.cell 2
 have f4 := h.blk.frozen 4
 have f2 := h.conn.frozen 2
 obtain ⟨S1, hS⟩ := qx x.1.state
 obtain ⟨E1, hE⟩ := qx x.2.ends
 have HR : Hid (∀ b, (E1 || S1 == 10) = b -> InAct K n ((w.setCell ⟨a, 4, none⟩ (.bool b)).setCell ⟨c, 2, none⟩ (.int .i64 st)) a c (Cn.to x st) ∧ Touch (OfAct K) w ((w.setCell ⟨a, 4, none⟩ (.bool b)).setCell ⟨c, 2, none⟩ (.int .i64 st))) := by
  intro b hb
  rw [<- hE, <- hS] at hb
  subst hb
  exact ⟨⟨_, _, _, _, (h.act1 (r := { x.2 with ends := x.2.ends || x.1.state == 10 }) 4 (.bool (x.2.ends || x.1.state == 10)) rfl rfl rfl).conn1 (s := { x.1 with state := st }) 2 (.int .i64 st) rfl ⟨h.ok.sq0, h.ok.sq1, h.ok.cc0, h.ok.cc1, h.ok.most0, h.ok.most1⟩⟩, ((Touch.refl _ _).st h.na).st h.nc⟩
 rw [hE] at k4
 rw [hS] at s2
 clear h hS hE
 cases E1
 ·by_cases h10 : S1 = 10
  ·subst h10
   have HX := lh (HR.out true rfl)
   clear HR
   go_enter Tryz.func117, Tryz.ntmps117
   go_wp2
   go_end0
   exact ⟨rfl, HX.out⟩
  ·have hb : (S1 == 10) = false := by simpa using h10
   have HX := lh (HR.out false (by rw [hb]; rfl))
   clear HR
   go_enter Tryz.func117, Tryz.ntmps117
   go_wp2
   go_end0
   exact ⟨rfl, HX.out⟩
 ·have HX := lh (HR.out true rfl)
  clear HR
  go_enter Tryz.func117, Tryz.ntmps117
  go_wp2
  go_end0
  exact ⟨rfl, HX.out⟩

theorem stop_any {K : Nat -> Prop} {n : Nat} {w : World} {a c : Nat} {x : Cn.SR} (h : InAct K n w a c x) (_hn : n <= 90) (st : Int) :
  Calls Tryz.prog 115 #[.pointer (some ⟨a, 0, none⟩), .int .i64 st] w fun e w' => e = .returned (.tuple #[]) ∧ InAct K n w' a c (Cn.stop x st) ∧ Touch (OfAct K) w w' := by
 go_enter Tryz.func115, Tryz.ntmps115
 go_wp2_with fail
 refine (to_any' h st).mono ?_
 rintro e w1 ⟨rfl, ⟨A1, c1, A2, c2, h1⟩, t1⟩
 have HT := lh t1
 have k6 : w1.cell? ⟨a, 6, none⟩ = some (.int .i64 (Cn.to x st).2.timer) := h1.blk.cell 6
 have fk6 := h1.blk.frozen 6
 have HX : Hid (InAct K n (w1.setCell ⟨a, 6, none⟩ (.int .i64 2)) a c (Cn.stop x st) ∧ Touch (OfAct K) w (w1.setCell ⟨a, 6, none⟩ (.int .i64 2))) :=
  ⟨⟨_, _, _, _, h1.act1 (r := { (Cn.to x st).2 with timer := 2 }) 6 (.int .i64 2) rfl rfl rfl⟩, HT.out.st h1.na⟩
 clear h1 t1
 go_wp2
 go_end0
 exact ⟨rfl, HX.out⟩

theorem ready_any {K : Nat -> Prop} {n : Nat} {w : World} {a c : Nat} {x : Cn.SR} (h : InAct K n w a c x) (hn : n <= 90) :
  Calls Tryz.prog 222 #[.pointer (some ⟨a, 0, none⟩)] w fun e w' => e = .returned (.tuple #[]) ∧ InAct K n w' a c (Cn.ready x) ∧ Touch (OfAct K) w w' := by
 go_enter Tryz.func222, Tryz.ntmps222
 go_wp2_with fail
 refine (stop_any h hn 10).mono ?_
 rintro e w1 ⟨rfl, ⟨A1, c1, A2, c2, h1⟩, t1⟩
 have HT := lh t1
 have hne : ¬ a = c := fun e => h1.ne e.symm
 have hne' : ¬ c = a := h1.ne
 have k0 : w1.cell? ⟨a, 0, none⟩ = some (.pointer (some ⟨c, 0, none⟩)) := h1.blk.cell 0
 have k3 : w1.cell? ⟨a, 3, none⟩ = some (.bool (Cn.stop x 10).2.begins) := h1.blk.cell 3
 have k5 : w1.cell? ⟨a, 5, none⟩ = some (.int .u32 (Cn.stop x 10).2.ms) := h1.blk.cell 5
 have s6 : w1.cell? ⟨c, 6, none⟩ = some (.int .u32 (Cn.stop x 10).1.ms) := h1.conn.cell 6
 have fk3 := h1.blk.frozen 3
 have fk5 := h1.blk.frozen 5
 have HX : Hid (InAct K n ((w1.setCell ⟨a, 3, none⟩ (.bool true)).setCell ⟨a, 5, none⟩ (.int .u32 (Cn.stop x 10).1.ms)) a c (Cn.ready x) ∧ Touch (OfAct K) w ((w1.setCell ⟨a, 3, none⟩ (.bool true)).setCell ⟨a, 5, none⟩ (.int .u32 (Cn.stop x 10).1.ms))) :=
  ⟨⟨_, _, _, _, (h1.act1 (r := { (Cn.stop x 10).2 with begins := true }) 3 (.bool true) rfl rfl rfl).act1 (r := { (Cn.stop x 10).2 with begins := true, ms := (Cn.stop x 10).1.ms }) 5 (.int .u32 (Cn.stop x 10).1.ms) rfl rfl rfl⟩, (HT.out.st h1.na).st h1.na⟩
 clear h1 t1
 generalize (Cn.stop x 10).1.ms = m at *
 generalize (Cn.stop x 10).2.ms = m2 at *
 generalize (Cn.stop x 10).2.begins = m3 at *
 go_wp2
 go_end0
 exact ⟨rfl, HX.out⟩

theorem report_any {K : Nat -> Prop} {n : Nat} {w : World} {a c : Nat} {x : Cn.SR} (h : InAct K n w a c x) (hn : n <= 90) (code : Int) :
  Calls Tryz.prog 112 #[.pointer (some ⟨a, 0, none⟩), .int .u8 code] w fun e w' => e = .returned (.tuple #[]) ∧ InAct K (n + 1) w' a c (Cn.report x code) ∧ Touch (OfAct K) w w' := by
 have HT : Hid (∀ w1, w1 = w -> _) := fun w1 (e : w1 = w) => tell_any (e ▸ h) hn ⟨12, ByteArray.empty, false, code, 0⟩
 go_enter Tryz.func112, Tryz.ntmps112
 go_wp2_with fail
 refine (HT.out _ rfl).mono ?_
 rintro e w1 ⟨rfl, h1⟩
 have HX := lh h1
 clear h1
 go_wp2
 go_end0
 exact ⟨rfl, HX.out⟩

theorem out_any {K : Nat -> Prop} {n : Nat} {w : World} {a c : Nat} {x : Cn.SR} (h : InAct K n w a c x) (hn : n <= 90) (p : Cn.Pd) :
  Calls Tryz.prog 186 #[.pointer (some ⟨a, 0, none⟩), pduV p] w fun e w' => e = .returned (.tuple #[]) ∧ InAct K (n + 1) w' a c (Cn.out x p) ∧ Touch (OfAct K) w w' := by
 obtain ⟨A1, c1, A2, c2, h⟩ := h
 have HA := lh h
 have hne : ¬ a = c := fun e => h.ne e.symm
 have hne' : ¬ c = a := h.ne
 unfold pduV
 have hl := h.few.2
 obtain ⟨k, hk⟩ := qx p.kind
 have b0 : Blk (w.alloc (.cells #[.int .i64 k, .int .i64 p.sq, .int .u32 p.n, .int .u32 p.ps, .int .u32 p.mr, .slice p.lA p.ln p.lc, .bool p.self, .string p.data] 58)) w.heap.size 58 [.int .i64 k, .int .i64 p.sq, .int .u32 p.n, .int .u32 p.ps, .int .u32 p.mr, .slice p.lA p.ln p.lc, .bool p.self, .string p.data] := Blk.new _ _ _
 have HB := lh b0
 have HF : Hid (Fresh w (w.alloc (.cells #[.int .i64 k, .int .i64 p.sq, .int .u32 p.n, .int .u32 p.ps, .int .u32 p.mr, .slice p.lA p.ln p.lc, .bool p.self, .string p.data] 58))) := (Touch.refl _ w).alloc _
 have HC : Hid (Cn.crd x.1 p = if Cn.has k then { p with n := x.1.credit } else p) := by rw [<- hk]; rfl
 rw [hk]
 clear b0 h
 go_enter Tryz.func186, Tryz.ntmps186
 go_upto_region 1 with (fail)
 have HG : Hid (∀ ad, w.heap.size ≠ a ∧ w.heap.size ≠ c ∧ (A1 = some ad -> ad.block ≠ w.heap.size) ∧ (A2 = some ad -> ad.block ≠ w.heap.size)) := fun ad => by
  have h1 := HA.out.blk.lt
  have h2 := HA.out.conn.lt
  exact ⟨by omega, by omega, fun e => by have := HA.out.sigs.lt ad e; omega, fun e => by have := HA.out.units.lt ad e; omega⟩
 have HA1 := lh (HA.out.old HF.out)
 have HSZ : Hid (w.heap.size <= w.heap.size) := Nat.le_refl _
 generalize hw1 : w.alloc (.cells #[.int .i64 k, .int .i64 p.sq, .int .u32 p.n, .int .u32 p.ps, .int .u32 p.mr, .slice p.lA p.ln p.lc, .bool p.self, .string p.data] 58) = w1 at *
 clear hw1
 generalize hg : w.heap.size = g at *
 have HGE := lh hg
 clear hg
 have c0 : w1.cell? ⟨g, 0, none⟩ = some (.int .i64 k) := HB.out.cell 0
 have c2' : w1.cell? ⟨g, 2, none⟩ = some (.int .u32 p.n) := HB.out.cell 2
 have fg2 := HB.out.frozen 2
 have k0 : w1.cell? ⟨a, 0, none⟩ = some (.pointer (some ⟨c, 0, none⟩)) := HA1.out.blk.cell 0
 have s1 : w1.cell? ⟨c, 1, none⟩ = some (.int .u32 x.1.credit) := HA1.out.conn.cell 1
 go_upto_block 0 with (fail)
 go_cut [] (fun wx => ∃ m : Int, Hid (m = if Cn.has k then x.1.credit else p.n) ∧ Hid (Blk wx g 58 [.int .i64 k, .int .i64 p.sq, .int .u32 m, .int .u32 p.ps, .int .u32 p.mr, .slice p.lA p.ln p.lc, .bool p.self, .string p.data]) ∧ Hid (Touch (· = g) w1 wx))
 case first =>
  have HS : Hid (Blk (w1.setCell ⟨g, 2, none⟩ (.int .u32 x.1.credit)) g 58 [.int .i64 k, .int .i64 p.sq, .int .u32 x.1.credit, .int .u32 p.ps, .int .u32 p.mr, .slice p.lA p.ln p.lc, .bool p.self, .string p.data]) := HB.out.set 2 _
  have HT1 : Hid (Touch (· = g) w1 (w1.setCell ⟨g, 2, none⟩ (.int .u32 x.1.credit))) := Touch.set1 _ _ _ _
  have HT0 : Hid (Touch (· = g) w1 w1) := Touch.refl _ _
  by_cases e1 : k = 1
  ·subst e1
   go_wp2
   go_meet
   case rel => exact ⟨_, rfl, HS, HT1⟩
  by_cases e2 : k = 2
  ·subst e2
   go_wp2
   go_meet
   case rel => exact ⟨_, rfl, HS, HT1⟩
  by_cases e3 : k = 5
  ·subst e3
   go_wp2
   go_meet
   case rel => exact ⟨_, rfl, HS, HT1⟩
  by_cases e4 : k = 6
  ·subst e4
   go_wp2
   go_meet
   case rel => exact ⟨_, rfl, HS, HT1⟩
  by_cases e5 : k = 9
  ·subst e5
   go_wp2
   go_meet
   case rel => exact ⟨_, rfl, HS, HT1⟩
  by_cases e6 : k = 15
  ·subst e6
   go_wp2
   go_meet
   case rel => exact ⟨_, rfl, HS, HT1⟩
  have HN : Hid (Cn.has k = false) := by simp [Hid, Cn.has, e1, e2, e3, e4, e5, e6]
  have b1 : (k == 1) = false := by simpa using e1
  have b2 : (k == 2) = false := by simpa using e2
  have b3 : (k == 5) = false := by simpa using e3
  have b4 : (k == 6) = false := by simpa using e4
  have b5 : (k == 9) = false := by simpa using e5
  have b6 : (k == 15) = false := by simpa using e6
  go_wp2
  go_meet
  case rel => exact ⟨p.n, by unfold Hid; rw [HN.out]; rfl, HB, HT0⟩
 case rest =>
  obtain ⟨m, hm, hb, ht⟩ := hcut
  have HQ : Hid ((⟨k, p.sq, m, p.ps, p.mr, p.lA, p.ln, p.lc, p.self, p.data⟩ : Cn.Pd) = Cn.crd x.1 p) := by
   unfold Hid
   rw [HC.out, hm.out, <- hk]
   split <;> rfl
  have HA2 := lh (HA1.out.touch ht.out (fun e => (HG.out ⟨0, 0, none⟩).1 e.symm) (fun e => (HG.out ⟨0, 0, none⟩).2.1 e.symm) (fun ad e => (HG.out ad).2.2.1 e) (fun ad e => (HG.out ad).2.2.2 e))
  have HF2 : Hid (Fresh w wc) := HF.out.trans ht.out (fun j hj e => by have := HGE.out; omega)
  have d0 := hb.out.cell 0
  have d1 := hb.out.cell 1
  have d2 := hb.out.cell 2
  have d3 := hb.out.cell 3
  have d4 := hb.out.cell 4
  have d5 := hb.out.cell 5
  have d6 := hb.out.cell 6
  have d7 := hb.out.cell 7
  simp only [List.getElem?_cons_zero, List.getElem?_cons_succ] at d0 d1 d2 d3 d4 d5 d6 d7
  have j1 : ∀ o, (wc.alloc o).cell? ⟨a, 2, none⟩ = some (.slice A2 x.2.units.length c2) := fun o => (HA2.out.blk.alloc o).cell 2
  have j0 : wc.cell? ⟨a, 2, none⟩ = some (.slice A2 x.2.units.length c2) := HA2.out.blk.cell 2
  clear c0 c2' fg2 k0 s1
  go_upto_region 9 with (fail)
  go_region_law (first
   |(refine stp_pdu rfl rfl (l := x.2.units) (l2 := [⟨k, p.sq, m, p.ps, p.mr, p.lA, p.ln, p.lc, p.self, p.data⟩]) rfl rfl (by exact HA2.out.units.alloc _) (by exact Sl.rd (Sl.lit pduE wc _ (by simp) _ [⟨k, p.sq, m, p.ps, p.mr, p.lA, p.ln, p.lc, p.self, p.data⟩] rfl _ rfl (by decide))) (by simp; omega) ?_; intro A3 c3 L3 w3 hL3 hs3 ht3 hA3
     obtain ⟨I3, T3, q3, z3⟩ := HA2.out.sent (((Touch.refl (fun _ => False) wc).alloc _).drew) HQ.out hL3.out hs3 ht3 hA3
     have HI3 := lh I3
     have HT3 : Hid (Touch (OfAct K) w (w3.setCell ⟨a, 2, none⟩ (.slice A3 L3.length c3))) := (HF2.out.mono (fun _ _ e => e.elim)).trans T3 (fun _ _ e => e)
     clear I3 T3 hs3 ht3 hA3 hL3))
  all_goals
   go_wp2
   go_end0
   exact ⟨rfl, ⟨_, _, _, _, HI3.out⟩, HT3.out⟩

theorem heard_any {K : Nat -> Prop} {n : Nat} {w : World} {a c : Nat} {x : Cn.SR} (h : InAct K n w a c x) (_hn : n <= 90) (p : Cn.Pd) :
  Calls Tryz.prog 263 #[.pointer (some ⟨a, 0, none⟩), pduV p] w fun e w' => e = .returned (.tuple #[]) ∧ InAct K n w' a c (Cn.heard x p) ∧ Touch (OfAct K) w w' := by
 obtain ⟨A1, c1, A2, c2, h⟩ := h
 have HA := lh h
 have hne : ¬ a = c := fun e => h.ne e.symm
 have hne' : ¬ c = a := h.ne
 unfold pduV
 have HX : Hid (InAct K n (((w.alloc (.cells #[.int .i64 p.kind, .int .i64 p.sq, .int .u32 p.n, .int .u32 p.ps, .int .u32 p.mr, .slice p.lA p.ln p.lc, .bool p.self, .string p.data] 58)).setCell ⟨c, 4, none⟩ (.int .i64 p.sq)).setCell ⟨c, 6, none⟩ (.int .u32 p.n)) a c (Cn.heard x p) ∧ Touch (OfAct K) w (((w.alloc (.cells #[.int .i64 p.kind, .int .i64 p.sq, .int .u32 p.n, .int .u32 p.ps, .int .u32 p.mr, .slice p.lA p.ln p.lc, .bool p.self, .string p.data] 58)).setCell ⟨c, 4, none⟩ (.int .i64 p.sq)).setCell ⟨c, 6, none⟩ (.int .u32 p.n))) := by
  have h0 := h.old ((Touch.refl (fun _ => False) w).alloc (.cells #[.int .i64 p.kind, .int .i64 p.sq, .int .u32 p.n, .int .u32 p.ps, .int .u32 p.mr, .slice p.lA p.ln p.lc, .bool p.self, .string p.data] 58))
  have ok' : Cn.Ok { x.1 with peer := p.sq } := ⟨h.ok.sq0, h.ok.sq1, h.ok.cc0, h.ok.cc1, h.ok.most0, h.ok.most1⟩
  have h1 := h0.conn1 (s := { x.1 with peer := p.sq }) 4 (.int .i64 p.sq) rfl ok'
  have h2 := h1.conn1 (s := { x.1 with peer := p.sq, ms := p.n }) 6 (.int .u32 p.n) rfl ⟨h.ok.sq0, h.ok.sq1, h.ok.cc0, h.ok.cc1, h.ok.most0, h.ok.most1⟩
  exact ⟨⟨_, _, _, _, h2⟩, (((Touch.refl _ _).alloc _).st h.nc).st h.nc⟩
 have k0 : ∀ o, (w.alloc o).cell? ⟨a, 0, none⟩ = some (.pointer (some ⟨c, 0, none⟩)) := fun o => (HA.out.blk.alloc o).cell 0
 have s4 : ∀ o, (w.alloc o).cell? ⟨c, 4, none⟩ = some (.int .i64 x.1.peer) := fun o => Blk.cell (Blk.alloc HA.out.conn o) 4
 have s6 : ∀ o, (w.alloc o).cell? ⟨c, 6, none⟩ = some (.int .u32 x.1.ms) := fun o => Blk.cell (Blk.alloc HA.out.conn o) 6
 have f4 : ∀ o, (w.alloc o).frozen? ⟨c, 4, none⟩ = false := fun o => Blk.frozen (Blk.alloc HA.out.conn o) 4
 have f6 : ∀ o, (w.alloc o).frozen? ⟨c, 6, none⟩ = false := fun o => Blk.frozen (Blk.alloc HA.out.conn o) 6
 clear h
 go_enter Tryz.func263, Tryz.ntmps263
 go_wp2
 go_region
 all_goals
  go_wp2
  go_end0
  exact ⟨rfl, InAct.done HX.out⟩

theorem quit_any {K : Nat -> Prop} {n : Nat} {w : World} {a c : Nat} {x : Cn.SR} (h : InAct K n w a c x) (hn : n <= 90) :
  Calls Tryz.prog 114 #[.pointer (some ⟨a, 0, none⟩)] w fun e w' => e = .returned (.tuple #[]) ∧ InAct K (n + 1) w' a c (Cn.quit x) ∧ Touch (OfAct K) w w' := by
 have HT : Hid (∀ w1, w1 = w -> _) := fun w1 (e : w1 = w) => out_any (e ▸ h) hn (Cn.unit_ 3 x.1.sq true Cn.no)
 obtain ⟨A1, c1, A2, c2, h⟩ := h
 have HA := lh h
 have hne : ¬ a = c := fun e => h.ne e.symm
 have hne' : ¬ c = a := h.ne
 have k0 : w.cell? ⟨a, 0, none⟩ = some (.pointer (some ⟨c, 0, none⟩)) := h.blk.cell 0
 have s3 : w.cell? ⟨c, 3, none⟩ = some (.int .i64 x.1.sq) := h.conn.cell 3
 clear h
 go_enter Tryz.func114, Tryz.ntmps114
 go_wp2_with fail
 refine (HT.out _ rfl).mono ?_
 rintro e w1 ⟨rfl, h1⟩
 have HX := lh h1
 clear h1
 go_wp2
 go_end0
 exact ⟨rfl, HX.out⟩

theorem again_any {K : Nat -> Prop} {n : Nat} {w : World} {a c : Nat} {x : Cn.SR} (h : InAct K n w a c x) (hn : n <= 90) :
  Calls Tryz.prog 111 #[.pointer (some ⟨a, 0, none⟩)] w fun e w' => e = .returned (.tuple #[]) ∧ InAct K (n + 1) w' a c (Cn.again x) ∧ Touch (OfAct K) w w' := by
 have HT : Hid (∀ k w1, InAct K n w1 a c x -> _) := fun k w1 (e : InAct K n w1 a c x) => out_any e hn (Cn.unit_ k x.1.sq false x.1.data)
 obtain ⟨A1, c1, A2, c2, h⟩ := h
 have HA := lh h
 have hne : ¬ a = c := fun e => h.ne e.symm
 have hne' : ¬ c = a := h.ne
 have k0 : w.cell? ⟨a, 0, none⟩ = some (.pointer (some ⟨c, 0, none⟩)) := h.blk.cell 0
 have s2 : w.cell? ⟨c, 2, none⟩ = some (.int .i64 x.1.state) := h.conn.cell 2
 have s3 : w.cell? ⟨c, 3, none⟩ = some (.int .i64 x.1.sq) := h.conn.cell 3
 have s7 : w.cell? ⟨c, 7, none⟩ = some (.string x.1.data) := h.conn.cell 7
 have k0' : ∀ o, (w.alloc o).cell? ⟨a, 0, none⟩ = some (.pointer (some ⟨c, 0, none⟩)) := fun o => (HA.out.blk.alloc o).cell 0
 have s3' : ∀ o, (w.alloc o).cell? ⟨c, 3, none⟩ = some (.int .i64 x.1.sq) := fun o => Blk.cell (Blk.alloc HA.out.conn o) 3
 have s7' : ∀ o, (w.alloc o).cell? ⟨c, 7, none⟩ = some (.string x.1.data) := fun o => Blk.cell (Blk.alloc HA.out.conn o) 7
 clear h
 go_enter Tryz.func111, Tryz.ntmps111
 go_wp2
 go_region
 obtain ⟨D, hD⟩ := qx x.1.data
 obtain ⟨q, hq⟩ := qx x.1.sq
 obtain ⟨st, hst⟩ := qx x.1.state
 have HK : Hid (Cn.again x = ((Cn.out x (Cn.unit_ (Cn.akind st) q false D)).1, { (Cn.out x (Cn.unit_ (Cn.akind st) q false D)).2 with timer := 1 })) := by rw [<- hD, <- hq, <- hst]; rfl
 rw [hD, hq] at HT
 rw [hst] at s2
 rw [hD, hq]
 have HB : Hid (Blk (w.alloc (.cells #[.int .i64 0, .int .i64 q, .int .u32 0, .int .u32 0, .int .u32 0, .slice none 0 0, .bool false, .string D] 58)).drew w.heap.size 58 [.int .i64 0, .int .i64 q, .int .u32 0, .int .u32 0, .int .u32 0, .slice none 0 0, .bool false, .string D]) := Blk.new _ _ _
 have HF : Hid (Fresh w (w.alloc (.cells #[.int .i64 0, .int .i64 q, .int .u32 0, .int .u32 0, .int .u32 0, .slice none 0 0, .bool false, .string D] 58)).drew) := ((Touch.refl _ w).alloc _).drew
 have s2' : (w.alloc (.cells #[.int .i64 0, .int .i64 q, .int .u32 0, .int .u32 0, .int .u32 0, .slice none 0 0, .bool false, .string D] 58)).drew.cell? ⟨c, 2, none⟩ = some (.int .i64 st) := by rw [<- hst]; exact Blk.cell (HF.out.blk HA.out.conn (fun h => h)) 2
 have k0'' : (w.alloc (.cells #[.int .i64 0, .int .i64 q, .int .u32 0, .int .u32 0, .int .u32 0, .slice none 0 0, .bool false, .string D] 58)).drew.cell? ⟨a, 0, none⟩ = some (.pointer (some ⟨c, 0, none⟩)) := Blk.cell (HF.out.blk HA.out.blk (fun h => h)) 0
 have HST := lh hst
 clear hD hq hst k0 s2 s3 s7 k0' s3' s7'
 generalize (w.alloc (.cells #[.int .i64 0, .int .i64 q, .int .u32 0, .int .u32 0, .int .u32 0, .slice none 0 0, .bool false, .string D] 58)).drew = w1 at *
 generalize hg : w.heap.size = g at *
 have HGE := lh hg
 clear hg
 have HA1 := lh (HA.out.old HF.out)
 have b0 : w1.cell? ⟨g, 0, none⟩ = some (.int .i64 0) := HB.out.cell 0
 have fb := HB.out.frozen 0
 go_upto_block 0 with (fail)
 go_cut [] (fun wx => Hid (Blk wx g 58 [.int .i64 (Cn.akind st), .int .i64 q, .int .u32 0, .int .u32 0, .int .u32 0, .slice none 0 0, .bool false, .string D]) ∧ Hid (Touch (· = g) w1 wx))
 case first =>
  have HS : Hid (∀ k, Blk (w1.setCell ⟨g, 0, none⟩ (.int .i64 k)) g 58 [.int .i64 k, .int .i64 q, .int .u32 0, .int .u32 0, .int .u32 0, .slice none 0 0, .bool false, .string D]) := fun k => HB.out.set 0 _
  have HT1 : Hid (∀ k, Touch (· = g) w1 (w1.setCell ⟨g, 0, none⟩ (.int .i64 k))) := fun k => Touch.set1 _ _ _ _
  by_cases e1 : st = 2
  ·subst e1
   go_wp2
   go_meet
   case rel => exact ⟨HS.out 1, HT1.out 1⟩
  by_cases e2 : st = 4
  ·subst e2
   go_wp2
   go_meet
   case rel => exact ⟨HS.out 3, HT1.out 3⟩
  by_cases e3 : st = 5
  ·subst e3
   go_wp2
   go_meet
   case rel => exact ⟨HS.out 5, HT1.out 5⟩
  have HN : Hid (Cn.akind st = 9) := by simp [Hid, Cn.akind, e1, e2, e3]
  have b1 : (st == 2) = false := by simpa using e1
  have b2 : (st == 4) = false := by simpa using e2
  have b3 : (st == 5) = false := by simpa using e3
  go_wp2
  go_meet
  case rel => exact ⟨by unfold Hid; rw [HN.out]; exact HS.out 9, HT1.out 9⟩
 case rest =>
  obtain ⟨hb, ht⟩ := hcut
  have HA2 : Hid (ActAt K n wc a c x A1 c1 A2 c2) := by
   have q1 := HA.out.blk.lt
   have q2 := HA.out.conn.lt
   have := HGE.out
   refine HA1.out.touch ht.out (fun e => ?_) (fun e => ?_) (fun ad e e' => ?_) (fun ad e e' => ?_)
   ·have e : _ = g := e; omega
   ·have e : _ = g := e; omega
   ·have := HA.out.sigs.lt ad e; have e' : _ = g := e'; omega
   ·have := HA.out.units.lt ad e; have e' : _ = g := e'; omega
  have HF2 : Hid (Fresh w wc) := HF.out.trans ht.out (fun j hj e => by have := HGE.out; have e : _ = g := e; omega)
  have d0 := hb.out.cell 0
  have d1 := hb.out.cell 1
  have d2 := hb.out.cell 2
  have d3 := hb.out.cell 3
  have d4 := hb.out.cell 4
  have d5 := hb.out.cell 5
  have d6 := hb.out.cell 6
  have d7 := hb.out.cell 7
  simp only [List.getElem?_cons_zero, List.getElem?_cons_succ] at d0 d1 d2 d3 d4 d5 d6 d7
  clear s2' k0'' b0 fb
  go_wp2_with fail
  refine (HT.out (Cn.akind st) _ ⟨_, _, _, _, HA2.out⟩).mono ?_
  rintro e w2 ⟨rfl, ⟨A3, c3, A4, c4, h3⟩, t3⟩
  have k6 : w2.cell? ⟨a, 6, none⟩ = some (.int .i64 (Cn.out x (Cn.unit_ (Cn.akind st) q false D)).2.timer) := h3.blk.cell 6
  have f6 := h3.blk.frozen 6
  have HX : Hid (InAct K (n + 1) (w2.setCell ⟨a, 6, none⟩ (.int .i64 1)) a c (Cn.again x) ∧ Touch (OfAct K) w (w2.setCell ⟨a, 6, none⟩ (.int .i64 1))) := by
   have z := h3.act1 (r := { (Cn.out x (Cn.unit_ (Cn.akind st) q false D)).2 with timer := 1 }) 6 (.int .i64 1) rfl rfl rfl
   rw [HK.out]
   exact ⟨⟨_, _, _, _, z⟩, ((HF2.out.mono (fun _ _ e => e.elim)).trans t3 (fun _ _ e => e)).st h3.na⟩
  clear h3 t3
  go_wp2
  go_end0
  exact ⟨rfl, HX.out⟩

theorem begin_any {K : Nat -> Prop} {n : Nat} {w : World} {a c : Nat} {x : Cn.SR} (h : InAct K n w a c x) (hn : n <= 90) (st : Int) (D : ByteArray) :
  Calls Tryz.prog 221 #[.pointer (some ⟨a, 0, none⟩), .int .i64 st, .string D] w fun e w' => e = .returned (.tuple #[]) ∧ InAct K (n + 1) w' a c (Cn.begin_ x st D) ∧ Touch (OfAct K) w w' := by
 go_enter Tryz.func221, Tryz.ntmps221
 go_wp2_with fail
 refine (to_any' h st).mono ?_
 rintro e w1 ⟨rfl, ⟨A1, c1, A2, c2, h1⟩, t1⟩
 have HT := lh t1
 have HA := lh h1
 have hne : ¬ a = c := fun e => h1.ne e.symm
 have hne' : ¬ c = a := h1.ne
 have hq0 := h1.ok.sq0
 have hq1 := h1.ok.sq1
 have k0 : w1.cell? ⟨a, 0, none⟩ = some (.pointer (some ⟨c, 0, none⟩)) := h1.blk.cell 0
 have s3 : w1.cell? ⟨c, 3, none⟩ = some (.int .i64 (Cn.to x st).1.sq) := h1.conn.cell 3
 have s5 : w1.cell? ⟨c, 5, none⟩ = some (.int .i64 (Cn.to x st).1.cc) := h1.conn.cell 5
 have s7 : w1.cell? ⟨c, 7, none⟩ = some (.string (Cn.to x st).1.data) := h1.conn.cell 7
 have f3 := h1.conn.frozen 3
 have f5 := h1.conn.frozen 5
 have f7 := h1.conn.frozen 7
 obtain ⟨q, hq⟩ := qx ((Cn.to x st).1.sq)
 have HX : Hid (InAct K n (((w1.setCell ⟨c, 3, none⟩ (.int .i64 ((q + 1) % 256))).setCell ⟨c, 5, none⟩ (.int .i64 1)).setCell ⟨c, 7, none⟩ (.string D)) a c ({ (Cn.to x st).1 with sq := ((Cn.to x st).1.sq + 1) % 256, cc := 1, data := D }, (Cn.to x st).2) ∧ Touch (OfAct K) w (((w1.setCell ⟨c, 3, none⟩ (.int .i64 ((q + 1) % 256))).setCell ⟨c, 5, none⟩ (.int .i64 1)).setCell ⟨c, 7, none⟩ (.string D))) := by
  rw [<- hq]
  have o1 : Cn.Ok { (Cn.to x st).1 with sq := ((Cn.to x st).1.sq + 1) % 256 } := ⟨by simp; omega, by simp; omega, h1.ok.cc0, h1.ok.cc1, h1.ok.most0, h1.ok.most1⟩
  have j1 := h1.conn1 (s := { (Cn.to x st).1 with sq := ((Cn.to x st).1.sq + 1) % 256 }) 3 (.int .i64 (((Cn.to x st).1.sq + 1) % 256)) rfl o1
  have j2 := j1.conn1 (s := { (Cn.to x st).1 with sq := ((Cn.to x st).1.sq + 1) % 256, cc := 1 }) 5 (.int .i64 1) rfl ⟨o1.sq0, o1.sq1, by simp, by simp, o1.most0, o1.most1⟩
  have j3 := j2.conn1 (s := { (Cn.to x st).1 with sq := ((Cn.to x st).1.sq + 1) % 256, cc := 1, data := D }) 7 (.string D) rfl ⟨o1.sq0, o1.sq1, by simp, by simp, o1.most0, o1.most1⟩
  exact ⟨⟨_, _, _, _, j3⟩, ((HT.out.st h1.nc).st h1.nc).st h1.nc⟩
 rw [hq] at s3 hq0 hq1
 clear h1 t1 hq
 go_wp2
 go_region
 have HX2 := lh (InAct.done HX.out)
 clear HX s3 s5 s7 k0 f3 f5 f7
 generalize (((w1.setCell ⟨c, 3, none⟩ (.int .i64 ((q + 1) % 256))).setCell ⟨c, 5, none⟩ (.int .i64 1)).setCell ⟨c, 7, none⟩ (.string D)).drew = w2 at *
 go_wp2_with fail
 refine (again_any HX2.out.1 hn).mono ?_
 rintro e w3 ⟨rfl, h3, t3⟩
 have HX3 : Hid (InAct K (n + 1) w3 a c (Cn.begin_ x st D) ∧ Touch (OfAct K) w w3) := ⟨h3, HX2.out.2.trans t3 (fun _ _ e => e)⟩
 clear h3 t3 HX2
 go_wp2
 go_end0
 exact ⟨rfl, HX3.out⟩

theorem leave_any {K : Nat -> Prop} {n : Nat} {w : World} {a c : Nat} {x : Cn.SR} (h : InAct K n w a c x) (hn : n <= 90) (D : ByteArray) :
  Calls Tryz.prog 223 #[.pointer (some ⟨a, 0, none⟩), .string D] w fun e w' => e = .returned (.tuple #[]) ∧ InAct K (n + 1) w' a c (Cn.leave x D) ∧ Touch (OfAct K) w w' := by
 go_enter Tryz.func223, Tryz.ntmps223
 go_wp2_with fail
 refine (to_any' h 4).mono ?_
 rintro e w1 ⟨rfl, ⟨A1, c1, A2, c2, h1⟩, t1⟩
 have HT := lh t1
 have HA := lh h1
 have hne : ¬ a = c := fun e => h1.ne e.symm
 have hne' : ¬ c = a := h1.ne
 have k0 : w1.cell? ⟨a, 0, none⟩ = some (.pointer (some ⟨c, 0, none⟩)) := h1.blk.cell 0
 have s5 : w1.cell? ⟨c, 5, none⟩ = some (.int .i64 (Cn.to x 4).1.cc) := h1.conn.cell 5
 have s7 : w1.cell? ⟨c, 7, none⟩ = some (.string (Cn.to x 4).1.data) := h1.conn.cell 7
 have f5 := h1.conn.frozen 5
 have f7 := h1.conn.frozen 7
 have HX : Hid (InAct K n ((w1.setCell ⟨c, 5, none⟩ (.int .i64 1)).setCell ⟨c, 7, none⟩ (.string D)) a c ({ (Cn.to x 4).1 with cc := 1, data := D }, (Cn.to x 4).2) ∧ Touch (OfAct K) w ((w1.setCell ⟨c, 5, none⟩ (.int .i64 1)).setCell ⟨c, 7, none⟩ (.string D))) := by
  have o1 := h1.ok
  have j2 := h1.conn1 (s := { (Cn.to x 4).1 with cc := 1 }) 5 (.int .i64 1) rfl ⟨o1.sq0, o1.sq1, by simp, by simp, o1.most0, o1.most1⟩
  have j3 := j2.conn1 (s := { (Cn.to x 4).1 with cc := 1, data := D }) 7 (.string D) rfl ⟨o1.sq0, o1.sq1, by simp, by simp, o1.most0, o1.most1⟩
  exact ⟨⟨_, _, _, _, j3⟩, (HT.out.st h1.nc).st h1.nc⟩
 clear h1 t1
 go_wp2
 go_region
 have HX2 := lh (InAct.done HX.out)
 clear HX s5 s7 k0 f5 f7
 generalize ((w1.setCell ⟨c, 5, none⟩ (.int .i64 1)).setCell ⟨c, 7, none⟩ (.string D)).drew = w2 at *
 go_wp2_with fail
 refine (again_any HX2.out.1 hn).mono ?_
 rintro e w3 ⟨rfl, h3, t3⟩
 have HX3 : Hid (InAct K (n + 1) w3 a c (Cn.leave x D) ∧ Touch (OfAct K) w w3) := ⟨h3, HX2.out.2.trans t3 (fun _ _ e => e)⟩
 clear h3 t3 HX2
 go_wp2
 go_end0
 exact ⟨rfl, HX3.out⟩

theorem Blk.boxed (w : World) (p : Cn.Pd) : Blk (w.alloc (.cells #[.int .i64 p.kind, .int .i64 p.sq, .int .u32 p.n, .int .u32 p.ps, .int .u32 p.mr, .slice p.lA p.ln p.lc, .bool p.self, .string p.data] 58)) w.heap.size 58 (pduE.enc p) := Blk.new _ _ _
theorem box_pre {K : Nat -> Prop} {n : Nat} {w : World} {a c : Nat} {x : Cn.SR} (h : InAct K n w a c x) (p : Cn.Pd) : ∃ w1, Hid (w1 = (w.alloc (.cells #[.int .i64 p.kind, .int .i64 p.sq, .int .u32 p.n, .int .u32 p.ps, .int .u32 p.mr, .slice p.lA p.ln p.lc, .bool p.self, .string p.data] 58))) ∧ Hid (Fresh w w1) ∧ Hid (Blk w1 w.heap.size 58 (pduE.enc p)) ∧ Hid (InAct (Kept K w w1) n w1 a c x) ∧ Hid (Kept K w w1 w.heap.size) ∧ Hid (∀ k, K k -> Kept K w w1 k) ∧ Hid (Touch (OfAct K) w w1) :=
 have HF : Fresh w (w.alloc (.cells #[.int .i64 p.kind, .int .i64 p.sq, .int .u32 p.n, .int .u32 p.ps, .int .u32 p.mr, .slice p.lA p.ln p.lc, .bool p.self, .string p.data] 58)) := (Touch.refl _ w).alloc _
 ⟨(w.alloc (.cells #[.int .i64 p.kind, .int .i64 p.sq, .int .u32 p.n, .int .u32 p.ps, .int .u32 p.mr, .slice p.lA p.ln p.lc, .bool p.self, .string p.data] 58)), lh rfl, lh HF, lh (Blk.boxed w p), lh (h.keep HF), lh (.inr ⟨Nat.le_refl _, by simp⟩), lh (fun k e => .inl e), lh (HF.mono (fun _ _ e => e.elim))⟩

theorem back_any {K : Nat -> Prop} {n : Nat} {w : World} {a c : Nat} {x : Cn.SR} (h : InAct K n w a c x) (p : Cn.Pd) (kind : Int) {A : Option Addr} {d : Nat} {ks : List Int} (hr : Rd intE w A d ks) (hA : ∀ ad, A = some ad -> 0 < ks.length -> K ad.block) (hn : n + ks.length <= 90) :
  Calls Tryz.prog 238 #[.pointer (some ⟨a, 0, none⟩), pduV p, .int .i64 kind, .slice A ks.length d] w fun e w' => e = .returned (.tuple #[]) ∧ InAct K (n + ks.length) w' a c (Cn.backs x p kind ks) ∧ Touch (OfAct K) w w' := by
 unfold pduV
 have HF : Hid (Fresh w (w.alloc (.cells #[.int .i64 p.kind, .int .i64 p.sq, .int .u32 p.n, .int .u32 p.ps, .int .u32 p.mr, .slice p.lA p.ln p.lc, .bool p.self, .string p.data] 58))) := (Touch.refl _ w).alloc _
 have HB := lh (Blk.boxed w p)
 have HA := lh (h.keep HF.out)
 have HR := lh hr
 have HK := lh hA
 have HG : Hid (Kept K w (w.alloc (.cells #[.int .i64 p.kind, .int .i64 p.sq, .int .u32 p.n, .int .u32 p.ps, .int .u32 p.mr, .slice p.lA p.ln p.lc, .bool p.self, .string p.data] 58)) w.heap.size) := .inr ⟨Nat.le_refl _, by simp⟩
 have HL : Hid (∀ k, K k -> Kept K w (w.alloc (.cells #[.int .i64 p.kind, .int .i64 p.sq, .int .u32 p.n, .int .u32 p.ps, .int .u32 p.mr, .slice p.lA p.ln p.lc, .bool p.self, .string p.data] 58)) k) := fun k e => .inl e
 have hlc := hr.1
 have hcm := hr.2.1
 unfold maxLen at hcm
 obtain ⟨st, hst⟩ := qx x.1.state
 have HS := lh hst
 clear h hr hA hst
 go_enter Tryz.func238, Tryz.ntmps238
 go_upto_region 1 with (fail)
 have HR1 := lh (HR.out.touch HF.out (fun _ _ _ h => h))
 clear HR
 generalize (w.alloc (.cells #[.int .i64 p.kind, .int .i64 p.sq, .int .u32 p.n, .int .u32 p.ps, .int .u32 p.mr, .slice p.lA p.ln p.lc, .bool p.self, .string p.data] 58)) = w1 at *
 generalize Kept K w w1 = K1 at *
 generalize w.heap.size = g at *
 go_wp2_with fail
 go_loopw [12, 9] (fun i _ wr => ∃ k : Nat, k <= ks.length ∧ i = .int .i64 k ∧ Hid (InAct K1 (n + k) wr a c (Cn.backs x p kind (ks.take k))) ∧ Hid (Touch (OfAct K1) w1 wr)) (fun i _ _ => ks.length - (intOf i).toNat)
 case atStart => exact ⟨0, by omega, rfl, HA, Touch.refl _ _⟩
 case round =>
  obtain ⟨k, hk, rfl, hi, ht⟩ := hrel
  by_cases hlt : k < ks.length
  ·have hKA : Hid (∀ ad, A = some ad -> K1 ad.block) := fun ad e => HL.out _ (HK.out ad e (by omega))
   obtain ⟨gA, oA, rfl, hg, hc⟩ := (HR1.out.touch ht.out (fun ad ha hl e => e (hKA.out ad ha))).int_at k hlt
   have HSN : Hid (Cn.backs x p kind (ks.take (k + 1)) = if ks.getD k 0 = st then Cn.out (Cn.backs x p kind (ks.take k)) (Cn.unit_ kind p.sq false Cn.no) else Cn.backs x p kind (ks.take k)) := by
    unfold Hid
    rw [List.take_succ_eq_append_getElem hlt, Cn.backs_snoc, HS.out]
    simp [List.getD, List.getElem?_eq_getElem hlt]
   generalize ks.getD k 0 = y at *
   have HT : Hid (∀ w1, InAct K1 (n + k) w1 a c (Cn.backs x p kind (ks.take k)) -> _) := fun w1 e => out_any e (by omega) (Cn.unit_ kind p.sq false Cn.no)
   have HII := hi
   obtain ⟨A1, c1, A2, c2, hh⟩ := hi.out
   have k0 : wr.cell? ⟨a, 0, none⟩ = some (.pointer (some ⟨c, 0, none⟩)) := hh.blk.cell 0
   have s2 : wr.cell? ⟨c, 2, none⟩ = some (.int .i64 st) := by rw [<- HS.out, <- Cn.backs_fst x p kind (ks.take k)]; exact hh.conn.cell 2
   have hb := ht.out.keptB HB.out HG.out
   have b1 : wr.cell? ⟨g, 1, none⟩ = some (.int .i64 p.sq) := hb.cell 1
   clear hh hb hi
   have hk2 : k + 1 <= ks.length := by omega
   by_cases hy : y = st
   ·subst hy
    rw [if_pos rfl] at HSN
    go_wp2_with fail
    refine (HT.out _ HII.out).mono ?_
    rintro e w2 ⟨rfl, i2, t2⟩
    have HI2 : Hid (InAct K1 (n + (k + 1)) w2 a c (Cn.backs x p kind (ks.take (k + 1)))) := by unfold Hid; rw [HSN.out]; exact i2
    have HT2 := lh (ht.out.trans t2 (fun _ _ e => e))
    clear i2 t2 HT
    go_wp2
    go_roundw
    case rel => exact ⟨k + 1, hk2, by go_num, HI2, HT2⟩
    case measure => simp [intOf]; omega
   ·rw [if_neg hy] at HSN
    have hyb : (y == st) = false := by simpa using hy
    have HI2 : Hid (InAct K1 (n + (k + 1)) wr a c (Cn.backs x p kind (ks.take (k + 1)))) := by unfold Hid; rw [HSN.out]; exact HII.out.wide (by omega)
    clear HT hy
    go_wp2
    go_roundw
    case rel => exact ⟨k + 1, hk2, by go_num, HI2, ht⟩
    case measure => simp [intOf]; omega
  ·have hkk : k = ks.length := by omega
   subst hkk
   have HX : Hid (InAct K (n + ks.length) wr a c (Cn.backs x p kind ks) ∧ Touch (OfAct K) w wr) := by
    rw [List.take_length] at hi
    exact ⟨hi.out.less HL.out, (HF.out.mono (fun _ _ e => e.elim)).trans (ht.out.loose HL.out) (fun _ _ e => e)⟩
   clear hi ht
   go_wp2
   go_end0
   exact ⟨rfl, HX.out⟩

theorem low14_any (x : Int) (w : World) (h : x % 16777216 = x) : Calls Tryz.prog 137 #[.int .u32 x] w fun e w' => e = .returned (.bool true) ∧ w' = w := by
 have HL := lh (low_any x)
 have H := lh h
 clear h
 go_enter Tryz.func137, Tryz.ntmps137
 go_wp2_with fail
 refine (HL.out _).mono ?_
 rintro e w2 ⟨rfl, rfl⟩
 rw [H.out]
 simp only
 go_wp2
 go_ret
 exact ⟨rfl, rfl⟩

theorem index_nil (f : Value) (w : World) : Calls Tryz.prog 205 #[.slice none 0 0, f] w fun e w' => e = .returned (.int .i64 (-1)) ∧ Fresh w w' := by
 go_enter Tryz.func205, Tryz.ntmps205
 go_wp2_with fail
 refine wp_loop_rounds 1 ?_
 rw [rounds_succ]
 go_wp2
 go_ret
 exact ⟨rfl, Touch.refl _ _⟩
theorem contains_nil (f : Value) (w : World) : Calls Tryz.prog 138 #[.slice none 0 0, f] w fun e w' => e = .returned (.bool false) ∧ Fresh w w' := by
 go_enter Tryz.func138, Tryz.ntmps138
 go_wp2_with fail
 refine (index_nil f _).mono ?_
 rintro e w2 ⟨rfl, f2⟩
 have F2 := lh f2
 clear f2
 go_wp2
 go_ret
 exact ⟨rfl, F2.out⟩

theorem shape_2 (w : World) : Calls Tryz.prog 136 #[.int .i64 2] w fun e w' => e = .returned (.agg #[.int .i64 0, .bool true, .bool true, .int .i64 0, .bool false, .bool false, .bool false, .bool true]) ∧ Fresh w w' := by
 go_enter Tryz.func136, Tryz.ntmps136
 go_wp2
 exact bodyPost_ret (v := _) (by simp [results, Tryz.results136, go_sem]) rfl ⟨rfl, (Touch.refl _ _).alloc _⟩

set_option maxRecDepth 100000 in
theorem check_2 (sq n : Int) (hq0 : 0 <= sq) (hq1 : sq <= 255) (hn : n % 16777216 = n) (w : World) : Calls Tryz.prog 61 #[pduV ⟨2, sq, n, 0, 0, none, 0, 0, false, ByteArray.empty⟩] w fun e w' => e = .returned (.int .i64 0) ∧ Fresh w w' := by
 unfold pduV
 have HL0 := lh (low14_any 0 · rfl)
 have HLN := lh (low14_any n · hn)
 clear hn
 have HF : Hid (Fresh w (w.alloc (.cells #[.int .i64 2, .int .i64 sq, .int .u32 n, .int .u32 0, .int .u32 0, .slice none 0 0, .bool false, .string ByteArray.empty] 58))) := (Touch.refl _ w).alloc _
 have HB : Hid (Blk (w.alloc (.cells #[.int .i64 2, .int .i64 sq, .int .u32 n, .int .u32 0, .int .u32 0, .slice none 0 0, .bool false, .string ByteArray.empty] 58)) w.heap.size 58 [.int .i64 2, .int .i64 sq, .int .u32 n, .int .u32 0, .int .u32 0, .slice none 0 0, .bool false, .string ByteArray.empty]) := Blk.new _ _ _
 go_enter Tryz.func61, Tryz.ntmps61
 go_upto_region 1 with (fail)
 generalize (w.alloc (.cells #[.int .i64 2, .int .i64 sq, .int .u32 n, .int .u32 0, .int .u32 0, .slice none 0 0, .bool false, .string ByteArray.empty] 58)) = w1 at *
 generalize w.heap.size = g at *
 have d0 : w1.cell? ⟨g, 0, none⟩ = some (.int .i64 2) := HB.out.cell 0
 have d1 : w1.cell? ⟨g, 1, none⟩ = some (.int .i64 sq) := HB.out.cell 1
 have d2 : w1.cell? ⟨g, 2, none⟩ = some (.int .u32 n) := HB.out.cell 2
 have d3 : w1.cell? ⟨g, 3, none⟩ = some (.int .u32 0) := HB.out.cell 3
 have d4 : w1.cell? ⟨g, 4, none⟩ = some (.int .u32 0) := HB.out.cell 4
 have d5 : w1.cell? ⟨g, 5, none⟩ = some (.slice none 0 0) := HB.out.cell 5
 have d6 : w1.cell? ⟨g, 6, none⟩ = some (.bool false) := HB.out.cell 6
 have d7 : w1.cell? ⟨g, 7, none⟩ = some (.string { data := #[] }) := HB.out.cell 7
 go_wp2_with fail
 refine (shape_2 w1).mono ?_
 rintro e w2 ⟨rfl, f2⟩
 have HF2 : Hid (Fresh w (w2.alloc (.cells #[.int .i64 0, .bool true, .bool true, .int .i64 0, .bool false, .bool false, .bool false, .bool true] 234))) := (HF.out.trans f2 (fun _ _ e => e)).alloc _
 have HB2 : Hid (Blk (w2.alloc (.cells #[.int .i64 0, .bool true, .bool true, .int .i64 0, .bool false, .bool false, .bool false, .bool true] 234)) g 58 [.int .i64 2, .int .i64 sq, .int .u32 n, .int .u32 0, .int .u32 0, .slice none 0 0, .bool false, .string ByteArray.empty]) := (f2.blk HB.out (fun e => e)).alloc _
 have HS2 : Hid (Blk (w2.alloc (.cells #[.int .i64 0, .bool true, .bool true, .int .i64 0, .bool false, .bool false, .bool false, .bool true] 234)) w2.heap.size 234 [.int .i64 0, .bool true, .bool true, .int .i64 0, .bool false, .bool false, .bool false, .bool true]) := Blk.new _ _ _
 clear f2 HF HB d0 d1 d2 d3 d4 d5 d6 d7
 go_upto_region 2 with (fail)
 generalize (w2.alloc (.cells #[.int .i64 0, .bool true, .bool true, .int .i64 0, .bool false, .bool false, .bool false, .bool true] 234)) = w3 at *
 generalize w2.heap.size = g2 at *
 have d0 : w3.cell? ⟨g, 0, none⟩ = some (.int .i64 2) := HB2.out.cell 0
 have d1 : w3.cell? ⟨g, 1, none⟩ = some (.int .i64 sq) := HB2.out.cell 1
 have d2 : w3.cell? ⟨g, 2, none⟩ = some (.int .u32 n) := HB2.out.cell 2
 have d3 : w3.cell? ⟨g, 3, none⟩ = some (.int .u32 0) := HB2.out.cell 3
 have d4 : w3.cell? ⟨g, 4, none⟩ = some (.int .u32 0) := HB2.out.cell 4
 have d5 : w3.cell? ⟨g, 5, none⟩ = some (.slice none 0 0) := HB2.out.cell 5
 have d6 : w3.cell? ⟨g, 6, none⟩ = some (.bool false) := HB2.out.cell 6
 have d7 : w3.cell? ⟨g, 7, none⟩ = some (.string { data := #[] }) := HB2.out.cell 7
 have s0 : w3.cell? ⟨g2, 0, none⟩ = some (.int .i64 0) := HS2.out.cell 0
 have s1 : w3.cell? ⟨g2, 1, none⟩ = some (.bool true) := HS2.out.cell 1
 have s2 : w3.cell? ⟨g2, 2, none⟩ = some (.bool true) := HS2.out.cell 2
 have s3 : w3.cell? ⟨g2, 3, none⟩ = some (.int .i64 0) := HS2.out.cell 3
 have s4 : w3.cell? ⟨g2, 4, none⟩ = some (.bool false) := HS2.out.cell 4
 have s5 : w3.cell? ⟨g2, 5, none⟩ = some (.bool false) := HS2.out.cell 5
 have s6 : w3.cell? ⟨g2, 6, none⟩ = some (.bool false) := HS2.out.cell 6
 have s7 : w3.cell? ⟨g2, 7, none⟩ = some (.bool true) := HS2.out.cell 7
 have b1 : decide (sq < 0) = false := decide_eq_false (by omega)
 have b2 : decide (255 < sq) = false := decide_eq_false (by omega)
 go_wp2_with fail
 refine (HLN.out _).mono ?_
 rintro e w4 ⟨rfl, rfl⟩
 go_wp2_with fail
 refine (HL0.out _).mono ?_
 rintro e w5 ⟨rfl, rfl⟩
 go_wp2_with fail
 refine (HL0.out _).mono ?_
 rintro e w6 ⟨rfl, rfl⟩
 go_wp2_with fail
 refine (contains_nil _ _).mono ?_
 rintro e w7 ⟨rfl, f7⟩
 have HF7 : Hid (Fresh w w7) := HF2.out.trans f7 (fun _ _ e => e)
 have HB7 := lh (f7.blk HB2.out (fun e => e))
 have HS7 := lh (f7.blk HS2.out (fun e => e))
 clear f7 d0 d1 d2 d3 d4 d5 d6 d7 s0 s1 s2 s3 s4 s5 s6 s7
 have d0 : w7.cell? ⟨g, 0, none⟩ = some (.int .i64 2) := HB7.out.cell 0
 have d1 : w7.cell? ⟨g, 1, none⟩ = some (.int .i64 sq) := HB7.out.cell 1
 have d2 : w7.cell? ⟨g, 2, none⟩ = some (.int .u32 n) := HB7.out.cell 2
 have d3 : w7.cell? ⟨g, 3, none⟩ = some (.int .u32 0) := HB7.out.cell 3
 have d4 : w7.cell? ⟨g, 4, none⟩ = some (.int .u32 0) := HB7.out.cell 4
 have d5 : w7.cell? ⟨g, 5, none⟩ = some (.slice none 0 0) := HB7.out.cell 5
 have d6 : w7.cell? ⟨g, 6, none⟩ = some (.bool false) := HB7.out.cell 6
 have d7 : w7.cell? ⟨g, 7, none⟩ = some (.string { data := #[] }) := HB7.out.cell 7
 have s0 : w7.cell? ⟨g2, 0, none⟩ = some (.int .i64 0) := HS7.out.cell 0
 have s1 : w7.cell? ⟨g2, 1, none⟩ = some (.bool true) := HS7.out.cell 1
 have s2 : w7.cell? ⟨g2, 2, none⟩ = some (.bool true) := HS7.out.cell 2
 have s3 : w7.cell? ⟨g2, 3, none⟩ = some (.int .i64 0) := HS7.out.cell 3
 have s4 : w7.cell? ⟨g2, 4, none⟩ = some (.bool false) := HS7.out.cell 4
 have s5 : w7.cell? ⟨g2, 5, none⟩ = some (.bool false) := HS7.out.cell 5
 have s6 : w7.cell? ⟨g2, 6, none⟩ = some (.bool false) := HS7.out.cell 6
 have s7 : w7.cell? ⟨g2, 7, none⟩ = some (.bool true) := HS7.out.cell 7
 go_wp2
 go_ret
 exact ⟨rfl, HF7.out⟩

end Go.Proofs.YtipaobpmojahaaaGreat

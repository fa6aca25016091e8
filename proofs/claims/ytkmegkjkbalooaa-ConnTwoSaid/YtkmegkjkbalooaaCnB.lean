/-
  conn: the next functions of an act: heard, quit, again, begin, leave.
-/
import Derived.Test.YtkmegkjkbalooaaCnA
namespace Go.Proofs.Ytkmegkjkbalooaa
open Go.RowKit

set_option maxHeartbeats 1000000 in
theorem heard_any {K : Nat → Prop} {n : Nat} {w : World} {a c : Nat} {x : Cn.SR} (h : InAct K n w a c x) (_hn : n ≤ 90) (p : Cn.Pd) :
    Calls Try.prog 64 #[.pointer (some ⟨a, 0, none⟩), pduV p] w fun e w' => e = .returned (.tuple #[]) ∧ InAct K n w' a c (Cn.heard x p) ∧ Touch (OfAct K) w w' := by
  obtain ⟨A1, c1, A2, c2, h⟩ := h
  have HA := Lib.hid h
  have hne : ¬ a = c := fun e => h.ne e.symm
  have hne' : ¬ c = a := h.ne
  unfold pduV
  have HX : Hid (InAct K n (((w.alloc (.cells #[.int .i64 p.kind, .int .i64 p.sq, .int .u32 p.n, .int .u32 p.ps, .int .u32 p.mr, .slice p.lA p.ln p.lc, .bool p.self, .string p.data] 54)).setCell ⟨c, 4, none⟩ (.int .i64 p.sq)).setCell ⟨c, 6, none⟩ (.int .u32 p.n)) a c (Cn.heard x p) ∧ Touch (OfAct K) w (((w.alloc (.cells #[.int .i64 p.kind, .int .i64 p.sq, .int .u32 p.n, .int .u32 p.ps, .int .u32 p.mr, .slice p.lA p.ln p.lc, .bool p.self, .string p.data] 54)).setCell ⟨c, 4, none⟩ (.int .i64 p.sq)).setCell ⟨c, 6, none⟩ (.int .u32 p.n))) := by
    have h0 := h.old ((Touch.refl (fun _ => False) w).alloc (.cells #[.int .i64 p.kind, .int .i64 p.sq, .int .u32 p.n, .int .u32 p.ps, .int .u32 p.mr, .slice p.lA p.ln p.lc, .bool p.self, .string p.data] 54))
    have ok' : Cn.Ok { x.1 with peer := p.sq } := ⟨h.ok.sq0, h.ok.sq1, h.ok.cc0, h.ok.cc1, h.ok.most0, h.ok.most1⟩
    have h1 := h0.conn1 (s := { x.1 with peer := p.sq }) 4 (.int .i64 p.sq) rfl ok'
    have h2 := h1.conn1 (s := { x.1 with peer := p.sq, ms := p.n }) 6 (.int .u32 p.n) rfl ⟨h.ok.sq0, h.ok.sq1, h.ok.cc0, h.ok.cc1, h.ok.most0, h.ok.most1⟩
    exact ⟨⟨_, _, _, _, h2⟩, (((Touch.refl _ _).alloc _).st h.nc).st h.nc⟩
  have k0 : ∀ o, (w.alloc o).cell? ⟨a, 0, none⟩ = some (.pointer (some ⟨c, 0, none⟩)) := fun o => (HA.out.blk.alloc o).cell 0
  have s4 : ∀ o, (w.alloc o).cell? ⟨c, 4, none⟩ = some (.int .i64 x.1.peer) := fun o => Blk.cell (Blk.alloc HA.out.conn o) 4
  have s6 : ∀ o, (w.alloc o).cell? ⟨c, 6, none⟩ = some (.int .u32 x.1.ms) := fun o => Blk.cell (Blk.alloc HA.out.conn o) 6
  have f4 : ∀ o, (w.alloc o).frozen? ⟨c, 4, none⟩ = false := fun o => Blk.frozen (Blk.alloc HA.out.conn o) 4
  have f6 : ∀ o, (w.alloc o).frozen? ⟨c, 6, none⟩ = false := fun o => Blk.frozen (Blk.alloc HA.out.conn o) 6
  clear h
  go_enter Try.func64, Try.ntmps64
  go_wp2
  go_region
  all_goals
    go_wp2
    go_end0
    exact ⟨rfl, InAct.done HX.out⟩

set_option maxHeartbeats 1000000 in
theorem quit_any {K : Nat → Prop} {n : Nat} {w : World} {a c : Nat} {x : Cn.SR} (h : InAct K n w a c x) (hn : n ≤ 90) :
    Calls Try.prog 31 #[.pointer (some ⟨a, 0, none⟩)] w fun e w' => e = .returned (.tuple #[]) ∧ InAct K (n + 1) w' a c (Cn.quit x) ∧ Touch (OfAct K) w w' := by
  have HT : Hid (∀ w1, w1 = w → _) := fun w1 (e : w1 = w) => out_any (e ▸ h) hn (Cn.unit_ 3 x.1.sq true Cn.no)
  obtain ⟨A1, c1, A2, c2, h⟩ := h
  have HA := Lib.hid h
  have hne : ¬ a = c := fun e => h.ne e.symm
  have hne' : ¬ c = a := h.ne
  have k0 : w.cell? ⟨a, 0, none⟩ = some (.pointer (some ⟨c, 0, none⟩)) := h.blk.cell 0
  have s3 : w.cell? ⟨c, 3, none⟩ = some (.int .i64 x.1.sq) := h.conn.cell 3
  clear h
  go_enter Try.func31, Try.ntmps31
  go_wp2_with fail
  refine (HT.out _ rfl).mono ?_
  rintro e w1 ⟨rfl, h1⟩
  have HX := Lib.hid h1
  clear h1
  go_wp2
  go_end0
  exact ⟨rfl, HX.out⟩

set_option maxHeartbeats 1000000 in
theorem again_any {K : Nat → Prop} {n : Nat} {w : World} {a c : Nat} {x : Cn.SR} (h : InAct K n w a c x) (hn : n ≤ 90) :
    Calls Try.prog 35 #[.pointer (some ⟨a, 0, none⟩)] w fun e w' => e = .returned (.tuple #[]) ∧ InAct K (n + 1) w' a c (Cn.again x) ∧ Touch (OfAct K) w w' := by
  have HT : Hid (∀ k w1, InAct K n w1 a c x → _) := fun k w1 (e : InAct K n w1 a c x) => out_any e hn (Cn.unit_ k x.1.sq false x.1.data)
  obtain ⟨A1, c1, A2, c2, h⟩ := h
  have HA := Lib.hid h
  have hne : ¬ a = c := fun e => h.ne e.symm
  have hne' : ¬ c = a := h.ne
  have k0 : w.cell? ⟨a, 0, none⟩ = some (.pointer (some ⟨c, 0, none⟩)) := h.blk.cell 0
  have s2 : w.cell? ⟨c, 2, none⟩ = some (.int .i64 x.1.state) := h.conn.cell 2
  have s3 : w.cell? ⟨c, 3, none⟩ = some (.int .i64 x.1.sq) := h.conn.cell 3
  have s7 : w.cell? ⟨c, 7, none⟩ = some (.string x.1.data) := h.conn.cell 7
  have k0' : ∀ o, (w.alloc o).cell? ⟨a, 0, none⟩ = some (.pointer (some ⟨c, 0, none⟩)) := fun o => (HA.out.blk.alloc o).cell 0
  have s3' : ∀ o, (w.alloc o).cell? ⟨c, 3, none⟩ = some (.int .i64 x.1.sq) := fun o => Blk.cell (Blk.alloc HA.out.conn o) 3
  have s7' : ∀ o, (w.alloc o).cell? ⟨c, 7, none⟩ = some (.string x.1.data) := fun o => Blk.cell (Blk.alloc HA.out.conn o) 7
  clear h
  go_enter Try.func35, Try.ntmps35
  go_wp2
  go_region
  obtain ⟨D, hD⟩ : ∃ D, x.1.data = D := ⟨_, rfl⟩
  obtain ⟨q, hq⟩ : ∃ q, x.1.sq = q := ⟨_, rfl⟩
  obtain ⟨st, hst⟩ : ∃ st, x.1.state = st := ⟨_, rfl⟩
  have HK : Hid (Cn.again x = ((Cn.out x (Cn.unit_ (Cn.akind st) q false D)).1, { (Cn.out x (Cn.unit_ (Cn.akind st) q false D)).2 with timer := 1 })) := by rw [← hD, ← hq, ← hst]; rfl
  rw [hD, hq] at HT
  rw [hst] at s2
  rw [hD, hq]
  have HB : Hid (Blk (w.alloc (.cells #[.int .i64 0, .int .i64 q, .int .u32 0, .int .u32 0, .int .u32 0, .slice none 0 0, .bool false, .string D] 54)).drew w.heap.size 54 [.int .i64 0, .int .i64 q, .int .u32 0, .int .u32 0, .int .u32 0, .slice none 0 0, .bool false, .string D]) := Blk.new _ _ _
  have HF : Hid (Fresh w (w.alloc (.cells #[.int .i64 0, .int .i64 q, .int .u32 0, .int .u32 0, .int .u32 0, .slice none 0 0, .bool false, .string D] 54)).drew) := ((Touch.refl _ w).alloc _).drew
  have s2' : (w.alloc (.cells #[.int .i64 0, .int .i64 q, .int .u32 0, .int .u32 0, .int .u32 0, .slice none 0 0, .bool false, .string D] 54)).drew.cell? ⟨c, 2, none⟩ = some (.int .i64 st) := by rw [← hst]; exact Blk.cell (HF.out.blk HA.out.conn (fun h => h)) 2
  have k0'' : (w.alloc (.cells #[.int .i64 0, .int .i64 q, .int .u32 0, .int .u32 0, .int .u32 0, .slice none 0 0, .bool false, .string D] 54)).drew.cell? ⟨a, 0, none⟩ = some (.pointer (some ⟨c, 0, none⟩)) := Blk.cell (HF.out.blk HA.out.blk (fun h => h)) 0
  have HST := Lib.hid hst
  clear hD hq hst k0 s2 s3 s7 k0' s3' s7'
  generalize (w.alloc (.cells #[.int .i64 0, .int .i64 q, .int .u32 0, .int .u32 0, .int .u32 0, .slice none 0 0, .bool false, .string D] 54)).drew = w1 at *
  generalize hg : w.heap.size = g at *
  have HGE := Lib.hid hg
  clear hg
  have HA1 := Lib.hid (HA.out.old HF.out)
  have b0 : w1.cell? ⟨g, 0, none⟩ = some (.int .i64 0) := HB.out.cell 0
  have fb := HB.out.frozen 0
  go_upto_block 0 with (fail)
  go_cut [] (fun wx => Hid (Blk wx g 54 [.int .i64 (Cn.akind st), .int .i64 q, .int .u32 0, .int .u32 0, .int .u32 0, .slice none 0 0, .bool false, .string D]) ∧ Hid (Touch (· = g) w1 wx))
  case first =>
    have HS : Hid (∀ k, Blk (w1.setCell ⟨g, 0, none⟩ (.int .i64 k)) g 54 [.int .i64 k, .int .i64 q, .int .u32 0, .int .u32 0, .int .u32 0, .slice none 0 0, .bool false, .string D]) := fun k => HB.out.set 0 _
    have HT1 : Hid (∀ k, Touch (· = g) w1 (w1.setCell ⟨g, 0, none⟩ (.int .i64 k))) := fun k => Touch.set1 _ _ _ _
    by_cases e1 : st = 2
    · subst e1
      go_wp2
      go_meet
      case rel => exact ⟨HS.out 1, HT1.out 1⟩
    by_cases e2 : st = 4
    · subst e2
      go_wp2
      go_meet
      case rel => exact ⟨HS.out 3, HT1.out 3⟩
    by_cases e3 : st = 5
    · subst e3
      go_wp2
      go_meet
      case rel => exact ⟨HS.out 5, HT1.out 5⟩
    have HN : Hid (Cn.akind st = 9) := by simp [Hid, Cn.akind, e1, e2, e3]
    have b1 : (st == 2) = false := by simpa using e1
    have b2 : (st == 4) = false := by simpa using e2
    have b3 : (st == 5) = false := by simpa using e3
    go_wp2
    go_meet
    case rel => exact ⟨by unfold Hid; rw [HN.out]; exact HS.out 9, HT1.out 9⟩
  case rest =>
    obtain ⟨hb, ht⟩ := hcut
    have HA2 : Hid (ActAt K n wc a c x A1 c1 A2 c2) := by
      have q1 := HA.out.blk.lt
      have q2 := HA.out.conn.lt
      have := HGE.out
      refine HA1.out.touch ht.out (fun e => ?_) (fun e => ?_) (fun ad e e' => ?_) (fun ad e e' => ?_)
      · have e : _ = g := e; omega
      · have e : _ = g := e; omega
      · have := HA.out.sigs.lt ad e; have e' : _ = g := e'; omega
      · have := HA.out.units.lt ad e; have e' : _ = g := e'; omega
    have HF2 : Hid (Fresh w wc) := HF.out.trans ht.out (fun j hj e => by have := HGE.out; have e : _ = g := e; omega)
    have d0 := hb.out.cell 0
    have d1 := hb.out.cell 1
    have d2 := hb.out.cell 2
    have d3 := hb.out.cell 3
    have d4 := hb.out.cell 4
    have d5 := hb.out.cell 5
    have d6 := hb.out.cell 6
    have d7 := hb.out.cell 7
    simp only [List.getElem?_cons_zero, List.getElem?_cons_succ] at d0 d1 d2 d3 d4 d5 d6 d7
    clear s2' k0'' b0 fb
    go_wp2_with fail
    refine (HT.out (Cn.akind st) _ ⟨_, _, _, _, HA2.out⟩).mono ?_
    rintro e w2 ⟨rfl, ⟨A3, c3, A4, c4, h3⟩, t3⟩
    have k6 : w2.cell? ⟨a, 6, none⟩ = some (.int .i64 (Cn.out x (Cn.unit_ (Cn.akind st) q false D)).2.timer) := h3.blk.cell 6
    have f6 := h3.blk.frozen 6
    have HX : Hid (InAct K (n + 1) (w2.setCell ⟨a, 6, none⟩ (.int .i64 1)) a c (Cn.again x) ∧ Touch (OfAct K) w (w2.setCell ⟨a, 6, none⟩ (.int .i64 1))) := by
      have z := h3.act1 (r := { (Cn.out x (Cn.unit_ (Cn.akind st) q false D)).2 with timer := 1 }) 6 (.int .i64 1) rfl rfl rfl
      rw [HK.out]
      exact ⟨⟨_, _, _, _, z⟩, ((HF2.out.mono (fun _ _ e => e.elim)).trans t3 (fun _ _ e => e)).st h3.na⟩
    clear h3 t3
    go_wp2
    go_end0
    exact ⟨rfl, HX.out⟩

set_option maxHeartbeats 1000000 in
theorem begin_any {K : Nat → Prop} {n : Nat} {w : World} {a c : Nat} {x : Cn.SR} (h : InAct K n w a c x) (hn : n ≤ 90) (st : Int) (D : ByteArray) :
    Calls Try.prog 23 #[.pointer (some ⟨a, 0, none⟩), .int .i64 st, .string D] w fun e w' => e = .returned (.tuple #[]) ∧ InAct K (n + 1) w' a c (Cn.begin_ x st D) ∧ Touch (OfAct K) w w' := by
  go_enter Try.func23, Try.ntmps23
  go_wp2_with fail
  refine (to_any' h st).mono ?_
  rintro e w1 ⟨rfl, ⟨A1, c1, A2, c2, h1⟩, t1⟩
  have HT := Lib.hid t1
  have HA := Lib.hid h1
  have hne : ¬ a = c := fun e => h1.ne e.symm
  have hne' : ¬ c = a := h1.ne
  have hq0 := h1.ok.sq0
  have hq1 := h1.ok.sq1
  have k0 : w1.cell? ⟨a, 0, none⟩ = some (.pointer (some ⟨c, 0, none⟩)) := h1.blk.cell 0
  have s3 : w1.cell? ⟨c, 3, none⟩ = some (.int .i64 (Cn.to x st).1.sq) := h1.conn.cell 3
  have s5 : w1.cell? ⟨c, 5, none⟩ = some (.int .i64 (Cn.to x st).1.cc) := h1.conn.cell 5
  have s7 : w1.cell? ⟨c, 7, none⟩ = some (.string (Cn.to x st).1.data) := h1.conn.cell 7
  have f3 := h1.conn.frozen 3
  have f5 := h1.conn.frozen 5
  have f7 := h1.conn.frozen 7
  obtain ⟨q, hq⟩ : ∃ q, (Cn.to x st).1.sq = q := ⟨_, rfl⟩
  have HX : Hid (InAct K n (((w1.setCell ⟨c, 3, none⟩ (.int .i64 ((q + 1) % 256))).setCell ⟨c, 5, none⟩ (.int .i64 1)).setCell ⟨c, 7, none⟩ (.string D)) a c ({ (Cn.to x st).1 with sq := ((Cn.to x st).1.sq + 1) % 256, cc := 1, data := D }, (Cn.to x st).2) ∧ Touch (OfAct K) w (((w1.setCell ⟨c, 3, none⟩ (.int .i64 ((q + 1) % 256))).setCell ⟨c, 5, none⟩ (.int .i64 1)).setCell ⟨c, 7, none⟩ (.string D))) := by
    rw [← hq]
    have o1 : Cn.Ok { (Cn.to x st).1 with sq := ((Cn.to x st).1.sq + 1) % 256 } := ⟨by simp; omega, by simp; omega, h1.ok.cc0, h1.ok.cc1, h1.ok.most0, h1.ok.most1⟩
    have j1 := h1.conn1 (s := { (Cn.to x st).1 with sq := ((Cn.to x st).1.sq + 1) % 256 }) 3 (.int .i64 (((Cn.to x st).1.sq + 1) % 256)) rfl o1
    have j2 := j1.conn1 (s := { (Cn.to x st).1 with sq := ((Cn.to x st).1.sq + 1) % 256, cc := 1 }) 5 (.int .i64 1) rfl ⟨o1.sq0, o1.sq1, by simp, by simp, o1.most0, o1.most1⟩
    have j3 := j2.conn1 (s := { (Cn.to x st).1 with sq := ((Cn.to x st).1.sq + 1) % 256, cc := 1, data := D }) 7 (.string D) rfl ⟨o1.sq0, o1.sq1, by simp, by simp, o1.most0, o1.most1⟩
    exact ⟨⟨_, _, _, _, j3⟩, ((HT.out.st h1.nc).st h1.nc).st h1.nc⟩
  rw [hq] at s3 hq0 hq1
  clear h1 t1 hq
  go_wp2
  go_region
  have HX2 := Lib.hid (InAct.done HX.out)
  clear HX s3 s5 s7 k0 f3 f5 f7
  generalize (((w1.setCell ⟨c, 3, none⟩ (.int .i64 ((q + 1) % 256))).setCell ⟨c, 5, none⟩ (.int .i64 1)).setCell ⟨c, 7, none⟩ (.string D)).drew = w2 at *
  go_wp2_with fail
  refine (again_any HX2.out.1 hn).mono ?_
  rintro e w3 ⟨rfl, h3, t3⟩
  have HX3 : Hid (InAct K (n + 1) w3 a c (Cn.begin_ x st D) ∧ Touch (OfAct K) w w3) := ⟨h3, HX2.out.2.trans t3 (fun _ _ e => e)⟩
  clear h3 t3 HX2
  go_wp2
  go_end0
  exact ⟨rfl, HX3.out⟩

set_option maxHeartbeats 1000000 in
theorem leave_any {K : Nat → Prop} {n : Nat} {w : World} {a c : Nat} {x : Cn.SR} (h : InAct K n w a c x) (hn : n ≤ 90) (D : ByteArray) :
    Calls Try.prog 43 #[.pointer (some ⟨a, 0, none⟩), .string D] w fun e w' => e = .returned (.tuple #[]) ∧ InAct K (n + 1) w' a c (Cn.leave x D) ∧ Touch (OfAct K) w w' := by
  go_enter Try.func43, Try.ntmps43
  go_wp2_with fail
  refine (to_any' h 4).mono ?_
  rintro e w1 ⟨rfl, ⟨A1, c1, A2, c2, h1⟩, t1⟩
  have HT := Lib.hid t1
  have HA := Lib.hid h1
  have hne : ¬ a = c := fun e => h1.ne e.symm
  have hne' : ¬ c = a := h1.ne
  have k0 : w1.cell? ⟨a, 0, none⟩ = some (.pointer (some ⟨c, 0, none⟩)) := h1.blk.cell 0
  have s5 : w1.cell? ⟨c, 5, none⟩ = some (.int .i64 (Cn.to x 4).1.cc) := h1.conn.cell 5
  have s7 : w1.cell? ⟨c, 7, none⟩ = some (.string (Cn.to x 4).1.data) := h1.conn.cell 7
  have f5 := h1.conn.frozen 5
  have f7 := h1.conn.frozen 7
  have HX : Hid (InAct K n ((w1.setCell ⟨c, 5, none⟩ (.int .i64 1)).setCell ⟨c, 7, none⟩ (.string D)) a c ({ (Cn.to x 4).1 with cc := 1, data := D }, (Cn.to x 4).2) ∧ Touch (OfAct K) w ((w1.setCell ⟨c, 5, none⟩ (.int .i64 1)).setCell ⟨c, 7, none⟩ (.string D))) := by
    have o1 := h1.ok
    have j2 := h1.conn1 (s := { (Cn.to x 4).1 with cc := 1 }) 5 (.int .i64 1) rfl ⟨o1.sq0, o1.sq1, by simp, by simp, o1.most0, o1.most1⟩
    have j3 := j2.conn1 (s := { (Cn.to x 4).1 with cc := 1, data := D }) 7 (.string D) rfl ⟨o1.sq0, o1.sq1, by simp, by simp, o1.most0, o1.most1⟩
    exact ⟨⟨_, _, _, _, j3⟩, (HT.out.st h1.nc).st h1.nc⟩
  clear h1 t1
  go_wp2
  go_region
  have HX2 := Lib.hid (InAct.done HX.out)
  clear HX s5 s7 k0 f5 f7
  generalize ((w1.setCell ⟨c, 5, none⟩ (.int .i64 1)).setCell ⟨c, 7, none⟩ (.string D)).drew = w2 at *
  go_wp2_with fail
  refine (again_any HX2.out.1 hn).mono ?_
  rintro e w3 ⟨rfl, h3, t3⟩
  have HX3 : Hid (InAct K (n + 1) w3 a c (Cn.leave x D) ∧ Touch (OfAct K) w w3) := ⟨h3, HX2.out.2.trans t3 (fun _ _ e => e)⟩
  clear h3 t3 HX2
  go_wp2
  go_end0
  exact ⟨rfl, HX3.out⟩
end Go.Proofs.Ytkmegkjkbalooaa

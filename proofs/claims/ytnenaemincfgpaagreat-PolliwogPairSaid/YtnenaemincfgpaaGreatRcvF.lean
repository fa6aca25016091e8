/-
  gaps.Named: the numbers that a status names · gaps.Named, ref09.Named: the numbers that a status names · recv.Recv: New, Vars, Poll, renew; seq.Between, seq.Max · recv.Recv: deliver · recv.Recv: Data · recv.Recv: Take.
-/
import Derived.Test.YtnenaemincfgpaaGreatRef13
import Derived.Test.YtnenaemincfgpaaGreatRows
import Derived.Test.YtnenaemincfgpaaGreatEvD
import Derived.Test.YtnenaemincfgpaaGreatCnP
import Derived.Deep.DeepCutAuto
import Derived.Deep.QuietTactic
import Derived.BigQuiet
import Derived.Test.YtnenaemincfgpaaGreatRcv
import Derived.RegionTactic
import Derived.ChangeAlike
import Derived.StillTailTactics
import Derived.Deep.CutBlock
import Derived.Test.YtnenaemincfgpaaGreatQTail
import Derived.Deep.RegionLaw
set_option maxHeartbeats 4000000
namespace Go.Proofs.YtnenaemincfgpaaGreat
open Go.RowKit

theorem zeroInt_NmW (w : World) : (zeroValue 3).run Tryz.prog w = .ok (.int .i64 0) w := by kernel_rfl

def pduV_Nm9 (kind sq n ps mr : Int) (A : Option Addr) (len c : Nat) (self : Bool) (data : ByteArray) : Value :=
 .agg #[.int .i64 kind, .int .i64 sq, .int .u32 n, .int .u32 ps, .int .u32 mr, .slice A len c, .bool self, .string data]

theorem btw_any (a x b : Int) (w : World) : Calls Tryz.prog 135 #[.int .u32 a, .int .u32 x, .int .u32 b] w fun e w' => e = .returned (.bool (decide ((x - a) % 16777216 < (b - a) % 16777216))) ∧ w' = w := by
 obtain ⟨y, hy⟩ := qx ((x - a) % 16777216)
 obtain ⟨z, hz⟩ := qx ((b - a) % 16777216)
 have HY := lh hy
 have HZ := lh hz
 rw [hy, hz]
 clear hy hz
 go_enter Tryz.func135, Tryz.ntmps135
 go_wp2_with fail
 refine (to_any a x w).mono ?_
 rintro e w2 ⟨rfl, rfl⟩
 rw [HY.out]
 simp only
 go_wp2_with fail
 refine (to_any a b w2).mono ?_
 rintro e w3 ⟨rfl, rfl⟩
 rw [HZ.out]
 simp only
 go_wp2
 go_ret
 exact ⟨rfl, rfl⟩

theorem smax_any (base a b : Int) (w : World) : Calls Tryz.prog 98 #[.int .u32 base, .int .u32 a, .int .u32 b] w fun e w' => e = .returned (.int .u32 (if (b - base) % 16777216 <= (a - base) % 16777216 then a % 16777216 else b % 16777216)) ∧ w' = w := by
 have HL := lh low_any
 obtain ⟨y, hy⟩ := qx ((a - base) % 16777216)
 obtain ⟨z, hz⟩ := qx ((b - base) % 16777216)
 have HY := lh hy
 have HZ := lh hz
 rw [hy, hz]
 clear hy hz
 by_cases hc : z <= y
 ·rw [if_pos hc]
  go_enter Tryz.func98, Tryz.ntmps98
  go_wp2_with fail
  refine (to_any base a w).mono ?_
  rintro e w2 ⟨rfl, rfl⟩
  rw [HY.out]
  simp only
  go_wp2_with fail
  refine (to_any base b w2).mono ?_
  rintro e w3 ⟨rfl, rfl⟩
  rw [HZ.out]
  simp only
  go_wp2_with fail
  refine (HL.out a w3).mono ?_
  rintro e w4 ⟨rfl, rfl⟩
  simp only
  go_wp2
  go_ret
  exact ⟨rfl, rfl⟩
 ·rw [if_neg hc]
  go_enter Tryz.func98, Tryz.ntmps98
  go_wp2_with fail
  refine (to_any base a w).mono ?_
  rintro e w2 ⟨rfl, rfl⟩
  rw [HY.out]
  simp only
  go_wp2_with fail
  refine (to_any base b w2).mono ?_
  rintro e w3 ⟨rfl, rfl⟩
  rw [HZ.out]
  simp only
  go_wp2_with fail
  refine (HL.out b w3).mono ?_
  rintro e w4 ⟨rfl, rfl⟩
  simp only
  go_wp2
  go_ret
  exact ⟨rfl, rfl⟩

theorem rnew_any (start window : Int) (w : World) :
  Calls Tryz.prog 84 #[.int .u32 start, .int .i64 window] w fun e w' => ∃ p F, e = .returned (.pointer (some ⟨p, 0, none⟩)) ∧ RecvAt w' p F (Rv.new start window) ∧ Fresh w w' ∧ ∀ x, F x -> w.heap.size <= x := by
 obtain ⟨m, hm⟩ := qx ((if 64 < window then (64 : Int) else window))
 obtain ⟨W, hW⟩ := qx ((if 1 < m then m else 1))
 have hx : Hid (max 1 (min window 64) = W) := by
  unfold Hid
  rw [<- hW, <- hm]; (split <;> (try split) <;> omega)
 have hmm := @run_makeMap Tryz.prog
 have HZ : Hid (∀ s mr : Int, RecvAt ((w.alloc (.map #[] 0)).alloc (.cells #[.int .u32 s, .int .u32 s, .int .u32 mr, .int .i64 W, .map (some w.heap.size), .slice none 0 0, .slice none 0 0] 121)) (w.heap.size + 1) (fun x => x = w.heap.size ∨ x = w.heap.size + 1) { r := s, h := s, mr := mr, window := W, m := [], inbox := [], gaps := [] }) := fun s mr => by
  have hb := Blk.new (w.alloc (.map #[] 0)) 121 [.int .u32 s, .int .u32 s, .int .u32 mr, .int .i64 W, .map (some w.heap.size), .slice none 0 0, .slice none 0 0]
  have e1 : (w.alloc (.map #[] 0)).heap.size = w.heap.size + 1 := by simp
  rw [e1] at hb
  exact ⟨w.heap.size, none, 0, none, 0, ⟨hb, (MapAt.made numK w).alloc _, Sl.nil _ _, Sl.nil _ _⟩, ⟨.inr rfl, .inl rfl, (fun _ e => by cases e), (fun _ e => by cases e)⟩, fun x hx => by simp; omega⟩
 have HF : Hid (∀ o1 o2, Fresh w ((w.alloc o1).alloc o2)) := fun o1 o2 => ((Touch.refl _ w).alloc o1).alloc o2
 have HN : Hid (Rv.new start window = { r := start % 16777216, h := start % 16777216, mr := (start % 16777216 + W) % 16777216, window := W, m := [], inbox := [], gaps := [] }) := by
  unfold Hid Rv.new
  rw [hx.out]
  congr 1
  omega
 go_enter Tryz.func84, Tryz.ntmps84
 go_wp2_with fail
 refine (low_any start w).mono ?_
 rintro e w1 ⟨rfl, rfl⟩
 generalize start % 16777216 = s at *
 simp only
 go_wp2_with fail
 refine (sadd_any s W _).mono ?_
 rintro e w2 ⟨rfl, rfl⟩
 generalize (s + W) % 16777216 = mr at *
 simp only
 go_wp2
 go_ret
 exact ⟨w2.heap.size + 1, _, rfl, by rw [HN.out]; exact HZ.out s mr, HF.out _ _, fun x hx => by omega⟩

theorem rpoll_any (p : Nat) (F : Nat -> Prop) (st : Rv.S) (x : Int) (w : World) (h : RecvAt w p F st) {ok : Bool} (hok : (decide ((st.h - st.r) % 16777216 <= (x - st.r) % 16777216) && decide ((x - st.r) % 16777216 <= (st.mr - st.r) % 16777216)) = ok) :
  Calls Tryz.prog 108 #[.pointer (some ⟨p, 0, none⟩), .int .u32 x] w fun e w' => e = .returned (.int .i64 (if ok then 0 else 11)) ∧ RecvAt w' p F (if ok then { st with h := x % 16777216 } else st) ∧ Touch F w w' := by
 obtain ⟨k, A, c, G, d, h1, hF, hL⟩ := h
 have c0 : w.cell? ⟨p, 0, none⟩ = some (.int .u32 st.r) := h1.blk.cell 0
 have c1 : w.cell? ⟨p, 1, none⟩ = some (.int .u32 st.h) := h1.blk.cell 1
 have c2 : w.cell? ⟨p, 2, none⟩ = some (.int .u32 st.mr) := h1.blk.cell 2
 have HI := lh h1
 have HF := lh hF
 have HL := lh hL
 clear h1 hF hL
 obtain ⟨r, hr⟩ := xq st.r
 obtain ⟨hh, hhe⟩ := xq st.h
 obtain ⟨mr, hmr⟩ := xq st.mr
 rw [<- hr] at c0 hok
 rw [<- hhe] at c1 hok
 rw [<- hmr] at c2 hok
 clear hr hhe hmr
 go_enter Tryz.func108, Tryz.ntmps108
 go_wp2_with fail
 refine (to_any r x w).mono ?_
 rintro e w1 ⟨rfl, rfl⟩
 generalize (x - r) % 16777216 = dd at *
 have HQ : Hid (∀ a b n, Calls Tryz.prog 101 #[.int .u32 a, .int .u32 b] (w1.drewN n) fun e w' => e = .returned (.int .i64 ((b - a) % 16777216)) ∧ w' = w1.drewN n) := fun a b n => to_any a b _
 simp only
 go_upto_region 2 with (fail)
 have HT1 := lh (to_any r hh)
 have HT2 := lh (to_any r mr)
 generalize (hh - r) % 16777216 = lo at *
 generalize (mr - r) % 16777216 = hi at *
 clear HQ
 by_cases hlo : lo <= dd
 ·have hdl : decide (dd < lo) = false := decide_eq_false (by omega)
  rw [decide_eq_true hlo] at hok
  by_cases hhi : dd <= hi
  ·have hdh : decide (hi < dd) = false := decide_eq_false (by omega)
   rw [decide_eq_true hhi] at hok
   obtain rfl : true = ok := hok
   go_quiet ((go_at_call 101; first | (with_reducible refine Calls.quiet_of_same (HT1.out _)) | (with_reducible refine Calls.quiet_of_same (HT2.out _))))
   have I2 := lh (HI.out.drewN nq)
   have T2 : Hid (Touch F w1 (w1.drewN nq)) := (Touch.refl _ _).drewN _
   clear c0 c1 c2 HI
   generalize w1.drewN nq = w2 at *
   have c1 : w2.cell? ⟨p, 1, none⟩ = some (.int .u32 st.h) := I2.out.blk.cell 1
   have fz := I2.out.blk.frozen 1
   have HX : Hid (RecvAt (w2.setCell ⟨p, 1, none⟩ (.int .u32 (x % 16777216))) p F { st with h := x % 16777216 }) := RecvAt.mk' (I2.out.scalar 1 _ rfl rfl rfl rfl) HF.out HL.out (T2.out.st (g := p) (i := 1) (u := .int .u32 (x % 16777216)) HF.out.p).size
   have HT : Hid (Touch F w1 (w2.setCell ⟨p, 1, none⟩ (.int .u32 (x % 16777216)))) := T2.out.st HF.out.p
   clear I2 T2 HF HT1 HT2
   go_wp2_with fail
   refine (low_any x w2).mono ?_
   rintro e w3 ⟨rfl, rfl⟩
   simp only
   go_wp2
   go_ret
   exact ⟨rfl, HX.out, HT.out⟩
  ·have hdh : decide (hi < dd) = true := decide_eq_true (by omega)
   rw [decide_eq_false hhi] at hok
   obtain rfl : false = ok := hok
   go_quiet ((go_at_call 101; first | (with_reducible refine Calls.quiet_of_same (HT1.out _)) | (with_reducible refine Calls.quiet_of_same (HT2.out _))))
   have HX : Hid (RecvAt (w1.drewN nq) p F st) := RecvAt.mk' (HI.out.drewN _) HF.out HL.out (Nat.le_refl _)
   go_wp2
   go_ret
   exact ⟨rfl, HX.out, (Touch.refl _ _).drewN _⟩
 ·have hdl : decide (dd < lo) = true := decide_eq_true (by omega)
  rw [decide_eq_false hlo] at hok
  obtain rfl : false = ok := hok
  go_quiet ((go_at_call 101; first | (with_reducible refine Calls.quiet_of_same (HT1.out _)) | (with_reducible refine Calls.quiet_of_same (HT2.out _))))
  have HX : Hid (RecvAt (w1.drewN nq) p F st) := RecvAt.mk' (HI.out.drewN _) HF.out HL.out (Nat.le_refl _)
  go_wp2
  go_ret
  exact ⟨rfl, HX.out, (Touch.refl _ _).drewN _⟩

theorem rrenew_any (p : Nat) (F : Nat -> Prop) (st : Rv.S) (w : World) (h : RecvAt w p F st) (hw : 0 <= st.window ∧ st.window <= 64) (hi : st.inbox.length <= 1000000) :
  Calls Tryz.prog 53 #[.pointer (some ⟨p, 0, none⟩)] w fun e w' => e = .returned (.tuple #[]) ∧ RecvAt w' p F (Rv.renew st) ∧ Touch F w w' := by
 obtain ⟨k, A, c, G, d, h1, hF, hL⟩ := h
 have c0 : w.cell? ⟨p, 0, none⟩ = some (.int .u32 st.r) := h1.blk.cell 0
 have c2 : w.cell? ⟨p, 2, none⟩ = some (.int .u32 st.mr) := h1.blk.cell 2
 have c3 : w.cell? ⟨p, 3, none⟩ = some (.int .i64 st.window) := h1.blk.cell 3
 have c5 : w.cell? ⟨p, 5, none⟩ = some (.slice A st.inbox.length c) := h1.blk.cell 5
 have fz := h1.blk.frozen 2
 have HI := lh h1
 have HF := lh hF
 have HL := lh hL
 clear h1 hF hL
 obtain ⟨x, hx⟩ := qx ((Rv.renew st).mr)
 have HR : Hid (Rv.renew st = { st with mr := x }) := by rw [<- hx]; rfl
 have HS := lh (smax_any st.r st.mr ((st.r + (st.window - (st.inbox.length : Int))) % 16777216))
 have hxx : (if ((st.r + (st.window - (st.inbox.length : Int))) % 16777216 - st.r) % 16777216 <= (st.mr - st.r) % 16777216 then st.mr % 16777216 else (st.r + (st.window - (st.inbox.length : Int))) % 16777216 % 16777216) = x := by
  rw [<- hx]
  unfold Rv.renew
  simp only
  rw [show ((st.r + (st.window - (st.inbox.length : Int))) % 16777216 - st.r) % 16777216 = (st.r + (st.window - (st.inbox.length : Int)) - st.r) % 16777216 by omega, show (st.r + (st.window - (st.inbox.length : Int))) % 16777216 % 16777216 = (st.r + (st.window - (st.inbox.length : Int))) % 16777216 by omega]
 rw [hxx] at HS
 have HA := lh (sadd_any st.r (st.window - (st.inbox.length : Int)))
 clear hx hxx
 have HX : Hid (∀ n, RecvAt ((w.drewN n).setCell ⟨p, 2, none⟩ (.int .u32 x)) p F (Rv.renew st)) := fun n => by
  rw [HR.out]
  exact RecvAt.mk' ((HI.out.drewN n).scalar 2 _ rfl rfl rfl rfl) HF.out HL.out (((Touch.refl F w).drewN n).st (g := p) (i := 2) (u := .int .u32 x) HF.out.p).size
 have HT : Hid (∀ n, Touch F w ((w.drewN n).setCell ⟨p, 2, none⟩ (.int .u32 x))) := fun n => ((Touch.refl _ w).drewN n).st HF.out.p
 obtain ⟨hw0, hw1⟩ := hw
 clear HI HF HR
 generalize st.r = r at *
 generalize st.mr = mr at *
 generalize hil : st.inbox.length = il at *
 generalize (r + (st.window - (il : Int))) % 16777216 = z at *
 generalize st.window = wd at *
 have hwr : IntKind.i64.wrap (wd - (il : Int)) = wd - (il : Int) := IntWalk.i64_in _ ⟨by omega, by omega⟩
 go_enter Tryz.func53, Tryz.ntmps53
 go_wp2_with fail
 refine wp_region_qtail 27 (by kernel_rfl) (by kernel_rfl) rfl (by kernel_rfl) (by kernel_rfl) ?_
 simp only [List.take_succ_cons, List.take_zero, List.drop_succ_cons, List.drop_zero, List.map_cons, List.map_nil, List.cons_append, List.nil_append, blankOp]
 repeat (quiet_step ((first
  |(go_at_call 12; with_reducible refine Calls.quiet_of_same (HA.out _))
  |(go_at_call 98; with_reducible refine Calls.quiet_of_same (HS.out _)))))
 refine wpQuiet_nil ?_
 intro _ hw'
 obtain ⟨nq, hw''⟩ := hw'
 subst hw''
 go_wp2
 go_end0
 exact ⟨rfl, HX.out _, HT.out _⟩

def Rv.varsV (st : Rv.S) : Value := .agg #[.int .u32 st.r, .int .u32 st.h, .int .u32 st.mr, .int .i64 (st.m.length : Int), .int .i64 (st.inbox.length : Int), .int .i64 (st.gaps.length : Int)]

theorem rvars_any (p : Nat) (F : Nat -> Prop) (st : Rv.S) (w : World) (h : RecvAt w p F st) :
  Calls Tryz.prog 38 #[.pointer (some ⟨p, 0, none⟩)] w fun e w' => e = .returned (Rv.varsV st) ∧ Fresh w w' := by
 obtain ⟨k, A, c, G, d, h1, hF, hL⟩ := h
 have F1 : Hid (Fresh w (w.alloc (.cells #[.int .u32 0, .int .u32 0, .int .u32 0, .int .i64 0, .int .i64 0, .int .i64 0] 51))) := (Touch.refl _ _).alloc _
 have B1 : Hid (Blk (w.alloc (.cells #[.int .u32 0, .int .u32 0, .int .u32 0, .int .i64 0, .int .i64 0, .int .i64 0] 51)) w.heap.size 51 [.int .u32 0, .int .u32 0, .int .u32 0, .int .i64 0, .int .i64 0, .int .i64 0]) := Blk.new w _ _
 have HI : Hid (RecvIn (w.alloc (.cells #[.int .u32 0, .int .u32 0, .int .u32 0, .int .i64 0, .int .i64 0, .int .i64 0] 51)) p k A c G d st) := h1.old F1.out
 have hpr : p < w.heap.size := h1.blk.lt
 clear h1 hF hL
 unfold Rv.varsV
 go_enter Tryz.func38, Tryz.ntmps38
 go_wp2_with fail
 generalize w.alloc (.cells #[.int .u32 0, .int .u32 0, .int .u32 0, .int .i64 0, .int .i64 0, .int .i64 0] 51) = w1 at *
 obtain ⟨g, hg⟩ := xq w.heap.size
 rw [<- hg] at B1 hpr ⊢
 have HG := lh hg
 clear hg
 have c0 : w1.cell? ⟨p, 0, none⟩ = some (.int .u32 st.r) := HI.out.blk.cell 0
 have c1 : w1.cell? ⟨p, 1, none⟩ = some (.int .u32 st.h) := HI.out.blk.cell 1
 have c2 : w1.cell? ⟨p, 2, none⟩ = some (.int .u32 st.mr) := HI.out.blk.cell 2
 have c4 : w1.cell? ⟨p, 4, none⟩ = some (.map (some k)) := HI.out.blk.cell 4
 have c5 : w1.cell? ⟨p, 5, none⟩ = some (.slice A st.inbox.length c) := HI.out.blk.cell 5
 have c6 : w1.cell? ⟨p, 6, none⟩ = some (.slice G st.gaps.length d) := HI.out.blk.cell 6
 have hln : ∀ n, (Builtin.len_ #[118] 3 #[.map (some k)]).run Tryz.prog (w1.drewN n) = .ok (.int .i64 (st.m.length : Int)) (w1.drewN n) := fun n => by
  have := len_map (P := Tryz.prog) (ty := 3) Tryz.underlying118 (HI.out.drewN n).map
  rwa [Rv.bufV_len] at this
 clear HI
 refine wp_region_qtail 28 (by kernel_rfl) (by kernel_rfl) rfl (by kernel_rfl) (by kernel_rfl) ?_
 simp only [List.take_succ_cons, List.take_zero, List.drop_succ_cons, List.drop_zero, List.map_cons, List.map_nil, List.cons_append, List.nil_append, blankOp]
 repeat (quiet_step (fail))
 refine wpQuiet_nil ?_
 intro _ hw'
 obtain ⟨nq, hw''⟩ := hw'
 subst hw''
 have B2 := lh (B1.out.drewN nq)
 have F2 := lh (F1.out.drewN nq)
 generalize w1.drewN nq = w2 at *
 have q0 : w2.cell? ⟨g, 0, none⟩ = some (.int .u32 0) := B2.out.cell 0
 have z0 := B2.out.frozen 0
 have q1 : w2.cell? ⟨g, 1, none⟩ = some (.int .u32 0) := B2.out.cell 1
 have z1 := B2.out.frozen 1
 have q2 : w2.cell? ⟨g, 2, none⟩ = some (.int .u32 0) := B2.out.cell 2
 have z2 := B2.out.frozen 2
 have q3 : w2.cell? ⟨g, 3, none⟩ = some (.int .i64 0) := B2.out.cell 3
 have z3 := B2.out.frozen 3
 have q4 : w2.cell? ⟨g, 4, none⟩ = some (.int .i64 0) := B2.out.cell 4
 have z4 := B2.out.frozen 4
 have q5 : w2.cell? ⟨g, 5, none⟩ = some (.int .i64 0) := B2.out.cell 5
 have z5 := B2.out.frozen 5
 have BF : Hid (Blk ((((((w2.setCell ⟨g, 0, none⟩ (.int .u32 st.r)).setCell ⟨g, 1, none⟩ (.int .u32 st.h)).setCell ⟨g, 2, none⟩ (.int .u32 st.mr)).setCell ⟨g, 3, none⟩ (.int .i64 (st.m.length : Int))).setCell ⟨g, 4, none⟩ (.int .i64 (st.inbox.length : Int))).setCell ⟨g, 5, none⟩ (.int .i64 (st.gaps.length : Int))) g 51 [.int .u32 st.r, .int .u32 st.h, .int .u32 st.mr, .int .i64 (st.m.length : Int), .int .i64 (st.inbox.length : Int), .int .i64 (st.gaps.length : Int)]) := ((((((B2.out.set 0 (.int .u32 st.r)).set 1 (.int .u32 st.h)).set 2 (.int .u32 st.mr)).set 3 (.int .i64 (st.m.length : Int))).set 4 (.int .i64 (st.inbox.length : Int))).set 5 (.int .i64 (st.gaps.length : Int)))
 have FF : Hid (Fresh w ((((((w2.setCell ⟨g, 0, none⟩ (.int .u32 st.r)).setCell ⟨g, 1, none⟩ (.int .u32 st.h)).setCell ⟨g, 2, none⟩ (.int .u32 st.mr)).setCell ⟨g, 3, none⟩ (.int .i64 (st.m.length : Int))).setCell ⟨g, 4, none⟩ (.int .i64 (st.inbox.length : Int))).setCell ⟨g, 5, none⟩ (.int .i64 (st.gaps.length : Int)))) := ((((((((((((F2.out).setCell (p := ⟨g, 0, none⟩) (fun hh => by have := HG.out; simp only at hh; omega) (.int .u32 st.r))).setCell (p := ⟨g, 1, none⟩) (fun hh => by have := HG.out; simp only at hh; omega) (.int .u32 st.h))).setCell (p := ⟨g, 2, none⟩) (fun hh => by have := HG.out; simp only at hh; omega) (.int .u32 st.mr))).setCell (p := ⟨g, 3, none⟩) (fun hh => by have := HG.out; simp only at hh; omega) (.int .i64 (st.m.length : Int)))).setCell (p := ⟨g, 4, none⟩) (fun hh => by have := HG.out; simp only at hh; omega) (.int .i64 (st.inbox.length : Int)))).setCell (p := ⟨g, 5, none⟩) (fun hh => by have := HG.out; simp only at hh; omega) (.int .i64 (st.gaps.length : Int)))
 clear B1 B2 F1 F2 c0 c1 c2 c4 c5 c6 hln
 go_wp2
 generalize ((((((w2.setCell ⟨g, 0, none⟩ (.int .u32 st.r)).setCell ⟨g, 1, none⟩ (.int .u32 st.h)).setCell ⟨g, 2, none⟩ (.int .u32 st.mr)).setCell ⟨g, 3, none⟩ (.int .i64 (st.m.length : Int))).setCell ⟨g, 4, none⟩ (.int .i64 (st.inbox.length : Int))).setCell ⟨g, 5, none⟩ (.int .i64 (st.gaps.length : Int))) = wf at *
 have e0 : wf.cell? ⟨g, 0, none⟩ = some (.int .u32 st.r) := BF.out.cell 0
 have e1 : wf.cell? ⟨g, 1, none⟩ = some (.int .u32 st.h) := BF.out.cell 1
 have e2 : wf.cell? ⟨g, 2, none⟩ = some (.int .u32 st.mr) := BF.out.cell 2
 have e3 : wf.cell? ⟨g, 3, none⟩ = some (.int .i64 (st.m.length : Int)) := BF.out.cell 3
 have e4 : wf.cell? ⟨g, 4, none⟩ = some (.int .i64 (st.inbox.length : Int)) := BF.out.cell 4
 have e5 : wf.cell? ⟨g, 5, none⟩ = some (.int .i64 (st.gaps.length : Int)) := BF.out.cell 5
 exact bodyPost_ret (v := .agg #[.int .u32 st.r, .int .u32 st.h, .int .u32 st.mr, .int .i64 (st.m.length : Int), .int .i64 (st.inbox.length : Int), .int .i64 (st.gaps.length : Int)]) (by simp [results, Tryz.results38, go_sem, e0, e1, e2, e3, e4, e5]) rfl ⟨rfl, FF.out⟩

def mapSize (w : World) (k : Nat) : Nat := match w.heap[k]? with | some (.map es _) => es.size | _ => 0
theorem MapAt.size {w : World} {k : Nat} {m : MList Int} (h : MapAt numK w k m) : mapSize w k = m.length := by
 obtain ⟨es, cl, hb, hn⟩ := mlen h
 unfold mapSize
 rw [hb]
 exact hn

theorem Rv.dl_none {k : Nat} {r : Int} {m : List (Int × ByteArray)} {L : List ByteArray} (h : mget m r = none) : Rv.dl k r m L = (r, m, L) := by
 cases k with
 |zero => rfl
 |succ k => simp only [Rv.dl, h]
theorem Rv.dl_some {r : Int} {m : List (Int × ByteArray)} {L : List ByteArray} {v : ByteArray} (hn : (m.map (·.1)).Nodup) (h : mget m r = some v) : Rv.dl m.length r m L = Rv.dl (mdel m r).length ((r + 1) % 16777216) (mdel m r) (L ++ [v]) := by
 have := mdel_len m r hn h
 rw [<- this]
 simp only [Rv.dl, h]

def RecvOut (w : World) (p : Nat) (F : Nat -> Prop) (st : Rv.S) (L : List ByteArray) (e : Ending) (w' : World) : Prop :=
 ∃ F' A' c', e = .returned (.slice A' L.length c') ∧ Sl strE w' A' c' L ∧ RecvAt w' p F' st ∧ Touch F w w' ∧ (∀ x, F' x -> F x ∨ w.heap.size <= x) ∧ ∀ ad, A' = some ad -> w.heap.size <= ad.block ∧ ¬ F' ad.block

set_option maxRecDepth 4000 in
theorem rdeliver_any (p : Nat) (F : Nat -> Prop) (st : Rv.S) (w : World) (h : RecvAt w p F st) (hi : st.inbox.length + st.m.length <= 1000000) :
  Calls Tryz.prog 136 #[.pointer (some ⟨p, 0, none⟩)] w (RecvOut w p F (Rv.deliver st).1 (Rv.deliver st).2) := by
 obtain ⟨k, A, c, G, d, h1, hF, hL⟩ := h
 have HI := lh h1
 have HF := lh hF
 have HL := lh hL
 have HPW : Hid (p < w.heap.size ∧ k < w.heap.size ∧ (∀ ad, A = some ad -> ad.block < w.heap.size) ∧ ∀ ad, G = some ad -> ad.block < w.heap.size) := ⟨hL _ hF.p, hL _ hF.k, fun ad e => hL _ (hF.A ad e), fun ad e => hL _ (hF.G ad e)⟩
 have hz := fun w => (show (zeroValue 9).run Tryz.prog w = .ok (.string ByteArray.empty) w by kernel_rfl)
 have HZ := lh hz
 clear h1 hF hL hz
 go_enter Tryz.func136, Tryz.ntmps136
 go_wp2_with fail
 go_loopw [3] (fun s3 wr => ∃ (r : Int) (m : List (Int × ByteArray)) (L : List ByteArray) (A' : Option Addr) (c' : Nat), s3 = .slice A' L.length c' ∧ Hid (Sl strE wr A' c' L) ∧ Hid (∀ ad, A' = some ad -> w.heap.size <= ad.block) ∧ Hid (Touch F w wr) ∧
   Hid (RecvIn wr p k A c G d { st with r := r, m := m }) ∧ Hid (Rv.dl st.m.length st.r st.m [] = Rv.dl m.length r m L) ∧ m.length + L.length <= st.m.length) (fun _ wr => mapSize wr k)
 case atStart => exact ⟨st.r, st.m, [], none, 0, rfl, Sl.nil _ _, fun _ e => (by cases e), Touch.refl _ _, HI, rfl, by simp⟩
 case round =>
  clear HI
  obtain ⟨r, m, L, A', c', rfl, HS, HB, HT, HI, HD, hlen⟩ := hrel
  have c0 : wr.cell? ⟨p, 0, none⟩ = some (.int .u32 r) := HI.out.blk.cell 0
  have c4 : wr.cell? ⟨p, 4, none⟩ = some (.map (some k)) := HI.out.blk.cell 4
  have hnd : Hid ((m.map (·.1)).Nodup) := by have := HI.out.map.nodup; rw [Rv.bufV_keys] at this; exact this
  have HLK : Hid (∀ n, (Instr.lookup 118 (.map (some k)) (.int .u32 r) true).run Tryz.prog (wr.drewN n) = .ok (.tuple #[((mget m r).map Value.string).getD (.string ByteArray.empty), .bool ((mget m r).map Value.string).isSome]) (wr.drewN n)) := fun n => by
   have := (HI.out.drewN n).map.look (T := 118) (e := 9) Tryz.underlying118 (HZ.out _) r true
   rw [Rv.bufV_get] at this
   exact this
  have HMS : Hid (mapSize wr k = m.length) := by have := HI.out.map.size; rw [Rv.bufV_len] at this; exact this
  cases hg : mget m r with
  |some v =>
   have HG := lh hg
   rw [hg] at HLK
   have hlk : ∀ n, (Instr.lookup 118 (.map (some k)) (.int .u32 r) true).run Tryz.prog (wr.drewN n) = .ok (.tuple #[.string v, .bool true]) (wr.drewN n) := HLK.out
   clear hg HLK
   go_upto_region 2 with (fail)
   go_quiet (fail)
   have I2 := lh (HI.out.drewN nq)
   have S2 : Hid (Sl strE (wr.drewN nq) A' c' L) := HS.out
   have T2 := lh (HT.out.drewN nq)
   have HAV : Hid (∀ x, A'.map Addr.block = some x -> w.heap.size <= x) := fun x e => by
    cases A' with
    |none => cases e
    |some ad => have := HB.out ad rfl; simp at e; omega
   clear HI HS HT c0 c4 hlk
   generalize wr.drewN nq = w2 at *
   have hLb : L.length <= 1000000 := by omega
   go_upto_region 7 with (at_builtin; refine app_str rfl rfl (l := L) (l2 := [v]) rfl rfl (S2.out.alloc _) (Sl.rd (Sl.lit strE w2 _ rfl #[.string v] [v] rfl 1 rfl (by decide))) (by simp; omega) ?_; intro A4 d4 M4 w4 hM4 hs4 ht4 hB4)
   have HM4 := lh hM4.out
   have S4 := lh hs4
   have I4 : Hid (RecvIn w4 p k A c G d { st with r := r, m := m }) := (I2.out.old ((Touch.refl (fun _ => False) w2).alloc _)).touch ht4
    (fun e => by have h1 := HAV.out _ e; have h2 := HPW.out.1; omega) (fun e => by have h1 := HAV.out _ e; have h2 := HPW.out.2.1; omega)
    (fun ad ha e => by have h1 := HAV.out _ e; have h2 := HPW.out.2.2.1 ad ha; omega) (fun ad ha e => by have h1 := HAV.out _ e; have h2 := HPW.out.2.2.2 ad ha; omega)
   have T4 : Hid (Touch F w w4) := (T2.out.alloc _).trans ht4 (fun x hx e => by have := HAV.out x e; omega)
   have B4 : Hid (∀ ad, A4 = some ad -> w.heap.size <= ad.block) := fun ad e => by
    subst e
    rcases hB4 with e | e
    ·exact HAV.out _ e.symm
    ·have := T2.out.size
     simp at e
     omega
   have hl4 : M4.length = L.length + 1 := by rw [hM4.out]; simp
   clear hM4 hs4 ht4 hB4 S2 I2 T2 HB HAV
   have c0 : w4.cell? ⟨p, 0, none⟩ = some (.int .u32 r) := I4.out.blk.cell 0
   have c4 : w4.cell? ⟨p, 4, none⟩ = some (.map (some k)) := I4.out.blk.cell 4
   refine wp_region_qtail 8 (by kernel_rfl) (by kernel_rfl) rfl (by kernel_rfl) (by kernel_rfl) ?_
   simp only [List.take_succ_cons, List.take_zero, List.drop_succ_cons, List.drop_zero, List.map_cons, List.map_nil, List.cons_append, List.nil_append, blankOp]
   repeat (quiet_step (fail))
   refine wpQuiet_nil ?_
   intro _ hw'
   obtain ⟨nq, hw''⟩ := hw'
   subst hw''
   have I5 := lh (I4.out.drewN nq)
   have S5 : Hid (Sl strE (w4.drewN nq) A4 d4 M4) := S4.out
   have T5 := lh (T4.out.drewN nq)
   clear I4 S4 T4 c0 c4
   generalize w4.drewN nq = w5 at *
   go_upto_region 8 with (refine wpList_delM rfl rfl (K := numK) (k := r) rfl rfl I5.out.map Tryz.underlying118 rfl ?_; intro w6 hm6 ht6)
   rw [Rv.bufV_del] at hm6
   have I6 := lh (I5.out.mapped hm6 ht6)
   have S6 : Hid (Sl strE w6 A4 d4 M4) := S5.out.touch ht6 (fun ad e => S5.out.ne_map I5.out.map ad e)
   have T6 : Hid (Touch F w w6) := T5.out.trans ht6 (fun x _ e => e ▸ HF.out.k)
   clear hm6 ht6 I5 S5 T5
   have c0 : w6.cell? ⟨p, 0, none⟩ = some (.int .u32 r) := I6.out.blk.cell 0
   have fz := I6.out.blk.frozen 0
   go_wp2_with fail
   refine (sadd_any r 1 w6).mono ?_
   rintro e w7 ⟨rfl, rfl⟩
   have I7 : Hid (RecvIn (w7.setCell ⟨p, 0, none⟩ (.int .u32 ((r + 1) % 16777216))) p k A c G d { st with r := (r + 1) % 16777216, m := mdel m r }) := I6.out.scalar 0 _ rfl rfl rfl rfl
   have S7 : Hid (Sl strE (w7.setCell ⟨p, 0, none⟩ (.int .u32 ((r + 1) % 16777216))) A4 d4 M4) := S6.out.setCell (p := ⟨p, 0, none⟩) (S6.out.blk_ne I6.out.blk (by decide)) _
   have T7 : Hid (Touch F w (w7.setCell ⟨p, 0, none⟩ (.int .u32 ((r + 1) % 16777216)))) := T6.out.st HF.out.p
   have HD7 : Hid (Rv.dl st.m.length st.r st.m [] = Rv.dl (mdel m r).length ((r + 1) % 16777216) (mdel m r) M4) := by
    unfold Hid
    rw [HD.out, Rv.dl_some hnd.out HG.out, HM4.out]
   have hdl := mdel_len m r hnd.out HG.out
   have HMS7 : Hid (mapSize (w7.setCell ⟨p, 0, none⟩ (.int .u32 ((r + 1) % 16777216))) k = (mdel m r).length) := by have := I7.out.map.size; rw [Rv.bufV_len] at this; exact this
   clear I6 S6 T6 HD hnd HG HM4
   generalize (r + 1) % 16777216 = r2 at *
   generalize mdel m r = m2 at *
   simp only
   go_wp2
   go_roundw
   case rel => exact ⟨r2, m2, M4, A4, d4, by rw [hl4], S7, B4, T7, I7, HD7, by omega⟩
   case measure => rw [HMS.out, HMS7.out]; omega
  |none =>
   have HLF : Hid (Rv.deliver st = ({ st with r := r, m := m, inbox := st.inbox ++ L }, L)) := by
    unfold Hid Rv.deliver
    rw [HD.out, Rv.dl_none hg]
   rw [hg] at HLK
   have hlk : ∀ n, (Instr.lookup 118 (.map (some k)) (.int .u32 r) true).run Tryz.prog (wr.drewN n) = .ok (.tuple #[.string ByteArray.empty, .bool false]) (wr.drewN n) := HLK.out
   clear hg HLK HD HMS hnd
   go_upto_region 2 with (fail)
   go_quiet (fail)
   have I2 := lh (HI.out.drewN nq)
   have S2 : Hid (Sl strE (wr.drewN nq) A' c' L) := HS.out
   have T2 := lh (HT.out.drewN nq)
   clear HI HS HT c0 c4 hlk
   generalize wr.drewN nq = w2 at *
   have c5 : w2.cell? ⟨p, 5, none⟩ = some (.slice A st.inbox.length c) := I2.out.blk.cell 5
   have HCL := lh (cloneStr_any A c st.inbox w2 I2.out.inb.rd (by omega))
   go_wp2_with fail
   refine HCL.out.mono ?_
   rintro e w3 ⟨A3, d3, rfl, s3, f3, b3⟩
   have I3 := lh (I2.out.old f3)
   have S3 : Hid (Sl strE w3 A' c' L) := S2.out.touch f3 (fun _ _ h => h)
   have T3 : Hid (Touch F w w3) := T2.out.trans f3 (fun _ _ h => h.elim)
   have HA3 : Hid (Sl strE w3 A3 d3 st.inbox) := s3
   have HB3 : Hid (∀ x, A3.map Addr.block = some x -> w2.heap.size <= x) := fun x e => by
    cases A3 with
    |none => cases e
    |some ad => have := b3 ad rfl; simp at e; omega
   have HAL : Hid (∀ ad, A' = some ad -> ad.block < w2.heap.size) := fun ad e => S2.out.lt ad e
   have HWS : Hid (w.heap.size <= w2.heap.size ∧ w2.heap.size <= w3.heap.size) := ⟨T2.out.size, f3.size⟩
   clear s3 f3 b3 HCL I2 S2 T2 c5
   have hLb : L.length <= 1000000 := by omega
   simp only
   have fz := I3.out.blk.frozen 5
   go_wp2_with (at_builtin; refine app_str rfl rfl (l := st.inbox) (l2 := L) rfl rfl HA3.out S3.out.rd (by omega) ?_; intro A4 d4 M4 w4 hM4 hs4 ht4 hB4
                have HM4 := lh hM4.out
                have hnp : ∀ x, A3.map Addr.block = some x -> ¬ x < w.heap.size := fun x e => by have h1 := HB3.out x e; have h2 := HWS.out; omega
                have I4 : Hid (RecvIn w4 p k A c G d { st with r := r, m := m }) := I3.out.touch ht4 (fun e => hnp _ e HPW.out.1) (fun e => hnp _ e HPW.out.2.1) (fun ad ha e => hnp _ e (HPW.out.2.2.1 ad ha)) (fun ad ha e => hnp _ e (HPW.out.2.2.2 ad ha))
                have S4 : Hid (Sl strE w4 A' c' L) := S3.out.touch ht4 (fun ad ha e => by have h1 := HB3.out _ e; have h2 := HAL.out ad ha; omega)
                have T4 : Hid (Touch F w w4) := T3.out.trans ht4 (fun x hx e => absurd hx (hnp x e))
                have B4 : Hid (∀ x, A4.map Addr.block = some x -> w2.heap.size <= x) := fun x e => by
                 rcases hB4 with e4 | e4
                 ·rw [e4] at e; exact HB3.out x e
                 ·rw [e4] at e; have h2 := HWS.out; simp at e; omega
                have Z4 := lh hs4
                have c5 : w4.cell? ⟨p, 5, none⟩ = some (.slice A st.inbox.length c) := I4.out.blk.cell 5
                have fz4 := I4.out.blk.frozen 5
                have I5 := lh (I4.out.inboxed Z4.out)
                have S5 : Hid (Sl strE (w4.setCell ⟨p, 5, none⟩ (.slice A4 M4.length d4)) A' c' L) := S4.out.setCell (p := ⟨p, 5, none⟩) (S4.out.blk_ne I4.out.blk (by decide)) _
                have T5 : Hid (Touch F w (w4.setCell ⟨p, 5, none⟩ (.slice A4 M4.length d4))) := T4.out.st HF.out.p
                have L5 : Hid (∀ x, A4.map Addr.block = some x -> x < w4.heap.size) := fun x e => by
                 cases A4 with
                 |none => cases e
                 |some ad => have := Z4.out.lt ad rfl; simp at e; omega
                clear hs4 ht4 hB4 hnp I3 S3 T3 HA3 HB3 hM4 I4 S4 T4 Z4)
   have HX : Hid (RecvAt (w4.setCell ⟨p, 5, none⟩ (.slice A4 M4.length d4)) p (fun x => F x ∨ A4.map Addr.block = some x) (Rv.deliver st).1) := by
    refine ⟨k, A4, d4, G, d, ?_, ⟨.inl HF.out.p, .inl HF.out.k, fun ad e => .inr (by rw [e]; rfl), fun ad e => .inl (HF.out.G ad e)⟩, fun x hx => ?_⟩
    ·rw [HLF.out]
     simp only
     rw [<- HM4.out]
     exact I5.out
    ·have hsz := T5.out.size
     rcases hx with hx | hx
     ·exact Nat.lt_of_lt_of_le (HL.out x hx) hsz
     ·have := L5.out x hx
      simpa using this
   have HB5 : Hid (∀ x, (F x ∨ A4.map Addr.block = some x) -> F x ∨ w.heap.size <= x) := fun x hx => by
    rcases hx with hx | hx
    ·exact .inl hx
    ·have h1 := B4.out x hx; have h2 := HWS.out; exact .inr (by omega)
   have HO5 : Hid (∀ ad, A' = some ad -> w.heap.size <= ad.block ∧ ¬ (F ad.block ∨ A4.map Addr.block = some ad.block)) := fun ad e => by
    have h1 := HB.out ad e
    refine ⟨h1, fun hx => ?_⟩
    rcases hx with hx | hx
    ·have := HL.out _ hx; omega
    ·have h2 := B4.out _ hx; have h3 := HAL.out ad e; omega
   have HD2 : Hid ((Rv.deliver st).2 = L) := by unfold Hid; rw [HLF.out]
   clear I5 B4 L5 HB HAL HLF
   go_ret
   exact ⟨_, A', c', by rw [HD2.out]; rfl, by rw [HD2.out]; exact S5.out, HX.out, T5.out, HB5.out, HO5.out⟩

theorem stp_gap {ops : Array Oper} {o : Oper} {a : Act} {K : Act -> World -> Prop} {Q : Exit -> Act -> World -> Prop} {F : Prop} {w : World} (hgd : o.guard = none) {s x : Operand}
  (ho : o.op = .call { callee := .builtin .append, args := #[s, x], argTypes := #[119, 119] })
  {A A2 : Option Addr} {c c2 : Nat} {l l2 : List (Int × Int)} (es : a.eval s = .slice A l.length c) (ex : a.eval x = .slice A2 l2.length c2)
  (h : Sl gapE w A c l) (h2 : Rd gapE w A2 c2 l2) (hm : l.length + l2.length <= 17592186044416)
  (hK : ∀ A' c' L w', Hid (L = l ++ l2) -> Sl gapE w' A' c' L -> Touch (fun k => A.map Addr.block = some k) w w' -> (A'.map Addr.block = A.map Addr.block ∨ A'.map Addr.block = some w.heap.size) →
   K (a.put o.dst (.slice A' L.length c')) w') : if Region.wanted o (yielded ops a.tmps) = true then Oper.wp Tryz.prog o a w K Q else F := by
 obtain ⟨i0, hi, hz0, hz1, hz2⟩ := info_parts Tryz.infoGap
 exact step_app gapE hgd ho i0 Tryz.underlying119 hi hz0 hz1 hz2 es ex h h2 (by simp only [maxLen]; omega) (by show _ * 8 <= _; omega) hK

theorem btw_q (a x b : Int) (W : World) {z : Bool} (hz : Hid (decide ((x - a) % 16777216 < (b - a) % 16777216) = z)) :
  Calls Tryz.prog 135 #[.int .u32 a, .int .u32 x, .int .u32 b] W fun e w' => e = .returned (.bool z) ∧ w' = W := by
 rw [<- hz.out]
 exact btw_any a x b W

theorem RecvOut.nil {w w' : World} {p : Nat} {F : Nat -> Prop} {st : Rv.S} (h : RecvAt w' p F st) (ht : Touch F w w') : RecvOut w p F st [] (.returned (.slice none 0 0)) w' :=
 ⟨F, none, 0, rfl, Sl.nil _ _, h, ht, fun _ hx => .inl hx, fun _ e => by cases e⟩

theorem RecvIn.appGap {w w1 w2 : World} {p k : Nat} {A G G2 : Option Addr} {c d d2 : Nat} {st : Rv.S} {L2 : List (Int × Int)} (h : RecvIn w p k A c G d st) (hf : Fresh w w1) (ht : Touch (fun k => G.map Addr.block = some k) w1 w2) (hs : Sl gapE w2 G2 d2 L2) :
  w2.cell? ⟨p, 6, none⟩ = some (.slice G st.gaps.length d) ∧ w2.frozen? ⟨p, 6, none⟩ = false ∧ RecvIn (w2.setCell ⟨p, 6, none⟩ (.slice G2 L2.length d2)) p k A c G2 d2 { st with gaps := L2 } := by
 have h1 := h.old hf
 have hg : ∀ x, G.map Addr.block = some x -> ∃ ad, G = some ad ∧ ad.block = x := fun x e => by
  cases G with
  |none => cases e
  |some ad => exact ⟨ad, rfl, by simpa using e⟩
 have b2 := ht.blk h1.blk (fun e => by obtain ⟨ad, e1, e2⟩ := hg _ e; exact h1.ne_G ad e1 e2)
 have m2 := h1.map.touch ht (fun e => by obtain ⟨ad, e1, e2⟩ := hg _ e; exact h1.G_ne_k ad e1 e2)
 have i2 := h1.inb.touch ht (fun ad ha e => by obtain ⟨ad', e1, e2⟩ := hg _ e; exact h1.A_ne_G ad ha ad' e1 e2.symm)
 exact ⟨b2.cell 6, b2.frozen 6, ⟨b2.set 6 _, m2.setCell (by exact m2.blk_ne b2) _, i2.setCell (p := ⟨p, 6, none⟩) (i2.blk_ne b2 (by decide)) _, hs.setCell (p := ⟨p, 6, none⟩) (hs.blk_ne b2 (by decide)) _⟩⟩

set_option maxRecDepth 4000 in
theorem rdata_any (p : Nat) (F : Nat -> Prop) (st : Rv.S) (n : Int) (v : ByteArray) (w : World) (h : RecvAt w p F st) (hi : st.inbox.length + st.m.length + st.gaps.length <= 100000) :
  Calls Tryz.prog 107 #[.pointer (some ⟨p, 0, none⟩), .int .u32 n, .string v] w (RecvOut w p F (Rv.data st n v).1 (Rv.data st n v).2) := by
 obtain ⟨k, A, c, G, d, h1, hF, hL⟩ := h
 have HI := lh h1
 have HF := lh hF
 have HL := lh hL
 have hz := fun w => (show (zeroValue 9).run Tryz.prog w = .ok (.string ByteArray.empty) w by kernel_rfl)
 have HZ := lh hz
 clear h1 hF hL hz
 have HD : Hid (Rv.data st n v = if Rv.takes st (n % 16777216) then Rv.deliver (Rv.lay st (n % 16777216) v) else (st, [])) := rfl
 go_enter Tryz.func107, Tryz.ntmps107
 go_wp2_with fail
 refine (low_any n w).mono ?_
 rintro e w1 ⟨rfl, rfl⟩
 generalize n % 16777216 = n2 at *
 have c0 : w1.cell? ⟨p, 0, none⟩ = some (.int .u32 st.r) := HI.out.blk.cell 0
 have c2 : w1.cell? ⟨p, 2, none⟩ = some (.int .u32 st.mr) := HI.out.blk.cell 2
 have c4 : w1.cell? ⟨p, 4, none⟩ = some (.map (some k)) := HI.out.blk.cell 4
 have HLK : Hid ((Instr.lookup 118 (.map (some k)) (.int .u32 n2) true).run Tryz.prog w1 = .ok (.tuple #[((mget st.m n2).map Value.string).getD (.string ByteArray.empty), .bool ((mget st.m n2).map Value.string).isSome]) w1) := by
  have := HI.out.map.look (T := 118) (e := 9) Tryz.underlying118 (HZ.out _) n2 true
  rw [Rv.bufV_get] at this
  exact this
 obtain ⟨z1, hz1⟩ : ∃ z1 : Bool, Hid (decide ((n2 - st.r) % 16777216 < (st.mr - st.r) % 16777216) = z1) := ⟨_, rfl⟩
 have HTK : Hid (Rv.takes st n2 = (decide (mget st.m n2 = none) && z1)) := by unfold Hid Rv.takes; rw [hz1.out]
 have HQ1 : Hid (∀ n, Calls Tryz.prog 135 #[.int .u32 st.r, .int .u32 n2, .int .u32 st.mr] (w1.drewN n) fun e w' => e = .returned (.bool z1) ∧ w' = w1.drewN n) := fun n => btw_q _ _ _ _ hz1
 simp only
 cases hg : mget st.m n2 with
 |some x =>
  rw [hg] at HLK HTK
  have HD2 : Hid (Rv.data st n v = (st, [])) := by unfold Hid; rw [HD.out, HTK.out]; rfl
  have hlk : (Instr.lookup 118 (.map (some k)) (.int .u32 n2) true).run Tryz.prog w1 = .ok (.tuple #[.string x, .bool true]) w1 := HLK.out
  clear HLK HD HTK hg
  go_upto_region 3 with (fail)
  go_quiet (fail)
  have HX : Hid (RecvAt (w1.drewN nq) p F st) := RecvAt.mk' (HI.out.drewN _) HF.out HL.out (Nat.le_refl _)
  go_wp2
  go_ret
  rw [HD2.out]
  exact RecvOut.nil HX.out ((Touch.refl _ _).drewN _)
 |none =>
  rw [hg] at HLK HTK
  have hlk : (Instr.lookup 118 (.map (some k)) (.int .u32 n2) true).run Tryz.prog w1 = .ok (.tuple #[.string ByteArray.empty, .bool false]) w1 := HLK.out
  clear HLK hg
  go_upto_region 3 with (fail)
  go_quiet ((go_at_call 135; with_reducible refine Calls.quiet_of_same (HQ1.out _)))
  cases z1 with
  |false =>
   have HD2 : Hid (Rv.data st n v = (st, [])) := by unfold Hid; rw [HD.out, HTK.out]; rfl
   have HX : Hid (RecvAt (w1.drewN nq) p F st) := RecvAt.mk' (HI.out.drewN _) HF.out HL.out (Nat.le_refl _)
   clear HD HTK
   go_wp2
   go_ret
   rw [HD2.out]
   exact RecvOut.nil HX.out ((Touch.refl _ _).drewN _)
  |true =>
   have HD2 : Hid (Rv.data st n v = Rv.deliver (Rv.lay st n2 v)) := by unfold Hid; rw [HD.out, HTK.out]; rfl
   have I2 := lh (HI.out.drewN nq)
   have T2 : Hid (Touch F w1 (w1.drewN nq)) := (Touch.refl _ _).drewN _
   clear HD HTK HQ1 c0 c2 c4 hlk HI
   generalize w1.drewN nq = w2 at *
   have c4 : w2.cell? ⟨p, 4, none⟩ = some (.map (some k)) := I2.out.blk.cell 4
   go_upto_region 6 with (refine wpList_storeM rfl rfl (K := numK) (k := n2) rfl rfl I2.out.map Tryz.underlying118 ?_; intro w3 hm3 ht3)
   have hm3' : MapAt numK w3 k (mset (Rv.bufV st.m) n2 (.string v)) := hm3
   rw [Rv.bufV_set] at hm3'
   have I3 := lh (I2.out.mapped hm3' ht3)
   have T3 : Hid (Touch F w1 w3) := T2.out.trans ht3 (fun x _ e => e ▸ HF.out.k)
   clear hm3 hm3' ht3 I2 T2 c4
   have c0 : w3.cell? ⟨p, 0, none⟩ = some (.int .u32 st.r) := I3.out.blk.cell 0
   have c1 : w3.cell? ⟨p, 1, none⟩ = some (.int .u32 st.h) := I3.out.blk.cell 1
   obtain ⟨z2, hz2⟩ : ∃ z2 : Bool, Hid (decide ((n2 - st.r) % 16777216 < (st.h - st.r) % 16777216) = z2) := ⟨_, rfl⟩
   have HQ2 : Hid (∀ n, Calls Tryz.prog 135 #[.int .u32 st.r, .int .u32 n2, .int .u32 st.h] (w3.drewN n) fun e w' => e = .returned (.bool z2) ∧ w' = w3.drewN n) := fun n => btw_q _ _ _ _ hz2
   have HLY : Hid (Rv.lay st n2 v = if z2 then { st with m := mset st.m n2 v } else { st with m := mset st.m n2 v, gaps := if n2 ≠ st.h ∧ st.gaps.length < 8 then st.gaps ++ [(st.h, n2)] else st.gaps, h := (n2 + 1) % 16777216 }) := by
    unfold Hid Rv.lay
    rw [<- hz2.out]
    simp only [decide_eq_true_eq]
   clear hz2 hz1
   go_quiet ((go_at_call 135; with_reducible refine Calls.quiet_of_same (HQ2.out _)))
   have I4 := lh (I3.out.drewN nq)
   have T4 := lh (T3.out.drewN nq)
   clear I3 T3 c0 c1 HQ2
   generalize w3.drewN nq = w4 at *
   go_upto_if 50 with (fail)
   go_cut [] (fun wx => ∃ G' d', Hid (RecvIn wx p k A c G' d' (Rv.lay st n2 v)) ∧ Hid (Touch F w1 wx) ∧ Hid (∀ ad, G' = some ad -> F ad.block ∨ w1.heap.size <= ad.block))
   case first =>
    cases z2 with
    |true =>
     have HE : Hid (Rv.lay st n2 v = { st with m := mset st.m n2 v }) := by unfold Hid; rw [HLY.out]; rfl
     go_wp2
     go_meet
     case rel => exact ⟨G, d, by rw [HE.out]; exact I4, T4, fun ad e => .inl (HF.out.G ad e)⟩
    |false =>
     have HE : Hid (Rv.lay st n2 v = { st with m := mset st.m n2 v, gaps := if n2 ≠ st.h ∧ st.gaps.length < 8 then st.gaps ++ [(st.h, n2)] else st.gaps, h := (n2 + 1) % 16777216 }) := by unfold Hid; rw [HLY.out]; rfl
     clear HLY
     have c1 : w4.cell? ⟨p, 1, none⟩ = some (.int .u32 st.h) := I4.out.blk.cell 1
     have c6 : w4.cell? ⟨p, 6, none⟩ = some (.slice G st.gaps.length d) := I4.out.blk.cell 6
     by_cases hgp : n2 ≠ st.h ∧ st.gaps.length < 8
     ·rw [if_pos hgp] at HE
      obtain ⟨hn1, hn2⟩ := hgp
      have hne : (n2 != st.h) = true := by simpa using hn1
      have hl8 : (st.gaps.length : Int) < 8 := by omega
      have hld : decide ((st.gaps.length : Int) < 8) = true := decide_eq_true hl8
      have k6 : ∀ o, (w4.alloc o).cell? ⟨p, 6, none⟩ = some (.slice G st.gaps.length d) := fun o => (I4.out.blk.alloc o).cell 6
      have k1 : ∀ o, (w4.alloc o).cell? ⟨p, 1, none⟩ = some (.int .u32 st.h) := fun o => (I4.out.blk.alloc o).cell 1
      go_upto_region 8 with (fail)
      go_region_law (first
       |(refine stp_gap rfl rfl (l := st.gaps) (l2 := [(st.h, n2)]) rfl rfl (by exact I4.out.gap.alloc _) (by exact Sl.rd (Sl.lit gapE w4 _ rfl _ _ rfl _ rfl (by decide))) (by simp; omega) ?_; intro G2 d2 L2 w5 hL2 hs2 ht2 hA2
         obtain ⟨q6, z6, I5⟩ := I4.out.appGap (((Touch.refl (fun _ => False) w4).alloc _).drew) ht2 hs2))
      all_goals
       have I6 : Hid (RecvIn (w5.setCell ⟨p, 6, none⟩ (.slice G2 L2.length d2)) p k A c G2 d2 { st with m := mset st.m n2 v, gaps := L2 }) := I5
       have T6 : Hid (Touch F w1 (w5.setCell ⟨p, 6, none⟩ (.slice G2 L2.length d2))) := Touch.st ((((T4.out.alloc _).drew)).trans ht2 (fun x _ e => by
        cases G with
        |none => cases e
        |some ad => have := HF.out.G ad rfl; simp at e; exact e ▸ this)) HF.out.p
       have G6 : Hid (∀ ad, G2 = some ad -> F ad.block ∨ w1.heap.size <= ad.block) := fun ad e => by
        subst e
        rcases hA2 with e | e
        ·cases G with
         |none => cases e
         |some ad' => have := HF.out.G ad' rfl; simp at e; exact .inl (e ▸ this)
        ·have := T4.out.size
         simp at e
         exact .inr (by omega)
       have HE6 : Hid (Rv.lay st n2 v = { st with m := mset st.m n2 v, gaps := L2, h := (n2 + 1) % 16777216 }) := by unfold Hid; rw [HE.out, hL2.out]
       clear hs2 ht2 hA2 hL2 q6 z6 I5 c1 c6 k6 k1 I4 T4 HE
       generalize w5.setCell ⟨p, 6, none⟩ (.slice G2 L2.length d2) = w6 at *
       have c1 : w6.cell? ⟨p, 1, none⟩ = some (.int .u32 st.h) := I6.out.blk.cell 1
       have z1 := I6.out.blk.frozen 1
       have I7 : Hid (RecvIn (w6.setCell ⟨p, 1, none⟩ (.int .u32 ((n2 + 1) % 16777216))) p k A c G2 d2 (Rv.lay st n2 v)) := by
        rw [HE6.out]
        exact I6.out.scalar 1 _ rfl rfl rfl rfl
       have T7 : Hid (Touch F w1 (w6.setCell ⟨p, 1, none⟩ (.int .u32 ((n2 + 1) % 16777216)))) := T6.out.st HF.out.p
       clear I6 T6 HE6
       go_wp2_with fail
       refine (sadd_any n2 1 _).mono ?_
       rintro e w8 ⟨rfl, rfl⟩
       simp only
       go_wp2
       go_meet
       case rel => exact ⟨G2, d2, I7, T7, G6⟩
     ·rw [if_neg hgp] at HE
      have z1 := I4.out.blk.frozen 1
      have I7 : Hid (RecvIn (w4.setCell ⟨p, 1, none⟩ (.int .u32 ((n2 + 1) % 16777216))) p k A c G d (Rv.lay st n2 v)) := by
       rw [HE.out]
       exact I4.out.scalar 1 _ rfl rfl rfl rfl
      have T7 : Hid (Touch F w1 (w4.setCell ⟨p, 1, none⟩ (.int .u32 ((n2 + 1) % 16777216)))) := T4.out.st HF.out.p
      have G7 : Hid (∀ ad, G = some ad -> F ad.block ∨ w1.heap.size <= ad.block) := fun ad e => .inl (HF.out.G ad e)
      clear I4 T4 HE
      by_cases hn1 : n2 = st.h
      ·have hne : (n2 != st.h) = false := by simpa using hn1
       clear hn1 hgp
       go_wp2_with fail
       refine (sadd_any n2 1 _).mono ?_
       rintro e w8 ⟨rfl, rfl⟩
       simp only
       go_wp2
       go_meet
       case rel => exact ⟨G, d, I7, T7, G7⟩
      ·have hne : (n2 != st.h) = true := by simpa using hn1
       have hl8 : ¬ (st.gaps.length : Int) < 8 := by
        have : ¬ st.gaps.length < 8 := fun hh => hgp ⟨hn1, hh⟩
        omega
       have hld : decide ((st.gaps.length : Int) < 8) = false := decide_eq_false hl8
       clear hn1 hgp
       go_wp2_with fail
       refine (sadd_any n2 1 _).mono ?_
       rintro e w8 ⟨rfl, rfl⟩
       simp only
       go_wp2
       go_meet
       case rel => exact ⟨G, d, I7, T7, G7⟩
   case rest =>
    obtain ⟨G', d', I8, T8, G8⟩ := hcut
    have R8 : Hid (RecvAt wc p (fun x => F x ∨ G'.map Addr.block = some x) (Rv.lay st n2 v)) := by
     refine ⟨k, A, c, G', d', I8.out, ⟨.inl HF.out.p, .inl HF.out.k, fun ad e => .inl (HF.out.A ad e), fun ad e => .inr (by rw [e]; rfl)⟩, fun x hx => ?_⟩
     rcases hx with hx | hx
     ·exact Nat.lt_of_lt_of_le (HL.out x hx) T8.out.size
     ·cases G' with
      |none => cases hx
      |some ad => have := I8.out.gap.lt ad rfl; simp at hx; omega
    have hlb : (Rv.lay st n2 v).inbox.length + (Rv.lay st n2 v).m.length <= 1000000 := by
     have h1 : (Rv.lay st n2 v).inbox = st.inbox := by unfold Rv.lay; split <;> rfl
     have h2 : (Rv.lay st n2 v).m = mset st.m n2 v := by unfold Rv.lay; split <;> rfl
     have h3 : (mset st.m n2 v).length <= st.m.length + 1 := by
      unfold mset
      split
      ·rw [List.length_map]; omega
      ·simp
     rw [h1, h2]
     omega
    have HDV := lh (rdeliver_any p _ (Rv.lay st n2 v) wc R8.out hlb)
    clear I8 R8 HLY
    go_wp2_with fail
    refine HDV.out.mono ?_
    rintro e w9 ⟨F', A', c', rfl, s9, r9, t9, b9, o9⟩
    have HX : Hid (RecvOut w1 p F (Rv.data st n v).1 (Rv.data st n v).2 (.returned (.slice A' (Rv.deliver (Rv.lay st n2 v)).2.length c')) w9) := by
     have hsz := T8.out.size
     have hG : ∀ x, G'.map Addr.block = some x -> F x ∨ w1.heap.size <= x := fun x e => by
      cases G' with
      |none => cases e
      |some ad => have := G8.out ad rfl; simp at e; exact e ▸ this
     rw [HD2.out]
     refine ⟨F', A', c', rfl, s9, r9, T8.out.trans t9 (fun x hx e => ?_), fun x hx => ?_, fun ad e => ⟨Nat.le_trans hsz (o9 ad e).1, (o9 ad e).2⟩⟩
     ·rcases e with e | e
      ·exact e
      ·rcases hG x e with e | e
       ·exact e
       ·omega
     ·rcases b9 x hx with e | e
      ·rcases e with e | e
       ·exact .inl e
       ·exact hG x e
      ·exact .inr (by omega)
    clear s9 r9 t9 b9 o9 HDV T8 G8
    simp only
    go_wp2
    go_ret
    exact HX.out

set_option maxRecDepth 4000 in
theorem rtake_any (p : Nat) (F : Nat -> Prop) (st : Rv.S) (n : Int) (w : World) (h : RecvAt w p F st) (hi : st.inbox.length <= 100000) (j : Nat) (hj : max 0 (min n (st.inbox.length : Int)) = (j : Int)) :
  Calls Tryz.prog 71 #[.pointer (some ⟨p, 0, none⟩), .int .i64 n] w (RecvOut w p F { st with inbox := st.inbox.drop j } (st.inbox.take j)) := by
 obtain ⟨k, A, c, G, d, h1, hF, hL⟩ := h
 have c5 : w.cell? ⟨p, 5, none⟩ = some (.slice A st.inbox.length c) := h1.blk.cell 5
 have fz := h1.blk.frozen 5
 have hjl : j <= st.inbox.length := by omega
 have hlc := h1.inb.1
 have hcm := h1.inb.2.1
 unfold maxLen at hcm
 have HI := lh h1
 have HF := lh hF
 have HL := lh hL
 have HPW : Hid (p < w.heap.size) := hL _ hF.p
 obtain ⟨m1, hm1⟩ : ∃ m1 : Int, (if (st.inbox.length : Int) < n then (st.inbox.length : Int) else n) = m1 := ⟨_, rfl⟩
 have hm2 : (if 0 < m1 then m1 else 0) = (j : Int) := by rw [<- hj, <- hm1]; split <;> (split <;> omega)
 clear hj
 -- what both clones give, whichever way the slice lies
 have HC1 : Hid (∀ A1 c1, Rd strE w A1 c1 (st.inbox.take j) -> Calls Tryz.prog 122 #[.slice A1 j c1] w fun e w' => ∃ A' c', e = .returned (.slice A' j c') ∧ Sl strE w' A' c' (st.inbox.take j) ∧ Fresh w w' ∧ ∀ ad, A' = some ad -> w.heap.size <= ad.block) := fun A1 c1 hr => by
  have := cloneStr_any A1 c1 (st.inbox.take j) w hr (by rw [List.length_take]; omega)
  rwa [List.length_take, Nat.min_eq_left hjl] at this
 have HC2 : Hid (∀ W A1 c1, Rd strE W A1 c1 (st.inbox.drop j) -> Calls Tryz.prog 122 #[.slice A1 (st.inbox.length - j) c1] W fun e w' => ∃ A' c', e = .returned (.slice A' (st.inbox.length - j) c') ∧ Sl strE w' A' c' (st.inbox.drop j) ∧ Fresh W w' ∧ ∀ ad, A' = some ad -> W.heap.size <= ad.block) := fun W A1 c1 hr => by
  have := cloneStr_any A1 c1 (st.inbox.drop j) W hr (by rw [List.length_drop]; omega)
  rwa [List.length_drop] at this
 have HU : Hid (Rd strE w A c (st.inbox.take j)) := h1.inb.rd.upto hjl
 have HD : Hid (∀ W, Fresh w W -> Rd strE W (if c = j then A else A.map (·.add (j * strE.size))) (c - j) (st.inbox.drop j)) := fun W hf => ((h1.inb.touch hf (fun _ _ h => h)).from_ hjl).rd
 clear h1 hF hL
 have HTL : Hid ((st.inbox.take j).length = j) := by unfold Hid; rw [List.length_take]; omega
 have HDL : Hid ((st.inbox.drop j).length = st.inbox.length - j) := List.length_drop
 -- the end, whichever way
 have HEND : Hid (∀ (w2 w3 : World) A2 d2 A3 d3, Sl strE w2 A2 d2 (st.inbox.take j) -> Fresh w w2 -> (∀ ad, A2 = some ad -> w.heap.size <= ad.block) -> Sl strE w3 A3 d3 (st.inbox.drop j) -> Fresh w2 w3 -> (∀ ad, A3 = some ad -> w2.heap.size <= ad.block) →
   (w3.cell? ⟨p, 5, none⟩ = some (.slice A st.inbox.length c) ∧ w3.frozen? ⟨p, 5, none⟩ = false) ∧ RecvOut w p F { st with inbox := st.inbox.drop j } (st.inbox.take j) (.returned (.slice A2 j d2)) (w3.setCell ⟨p, 5, none⟩ (.slice A3 (st.inbox.length - j) d3))) := by
  intro w2 w3 A2 d2 A3 d3 s2 f2 b2 s3 f3 b3
  have F3 : Fresh w w3 := f2.trans f3 (fun _ _ h => h)
  have I3 := HI.out.old F3
  refine ⟨⟨I3.blk.cell 5, I3.blk.frozen 5⟩, fun x => F x ∨ A3.map Addr.block = some x, A2, d2, by rw [HTL.out], ?_, ⟨k, A3, d3, G, d, ?_, ⟨.inl HF.out.p, .inl HF.out.k, fun ad e => .inr (by rw [e]; rfl), fun ad e => .inl (HF.out.G ad e)⟩, fun x hx => ?_⟩, ?_, fun x hx => ?_, fun ad e => ⟨b2 ad e, fun hx => ?_⟩⟩
  ·exact (s2.touch f3 (fun _ _ h => h)).setCell (p := ⟨p, 5, none⟩) ((s2.touch f3 (fun _ _ h => h)).blk_ne I3.blk (by decide)) _
  ·have := I3.inboxed s3
   rwa [HDL.out] at this
  ·have h1 := F3.size
   rcases hx with hx | hx
   ·have := HL.out x hx; simp; omega
   ·cases A3 with
    |none => cases hx
    |some ad => have := s3.lt ad rfl; simp at hx ⊢; omega
  ·exact ((F3.mono (fun _ _ h => h.elim) : Touch F w w3)).st HF.out.p
  ·rcases hx with hx | hx
   ·exact .inl hx
   ·cases A3 with
    |none => cases hx
    |some ad => have h1 := b3 ad rfl; have h2 := f2.size; simp at hx; exact .inr (by omega)
  ·rcases hx with hx | hx
   ·have h1 := HL.out _ hx; have h2 := b2 ad e; omega
   ·cases A3 with
    |none => cases hx
    |some ad' => have h1 := b3 ad' rfl; have h2 := s2.lt ad e; simp at hx; omega
 clear HF HL HTL HDL
 cases A with
 |none =>
  have hc0 := HI.out.inb.2.2.1 rfl
  have hl0 : st.inbox.length = 0 := by omega
  obtain rfl : j = 0 := by omega
  subst hc0
  have hnil : st.inbox = [] := List.eq_nil_of_length_eq_zero hl0
  rw [hl0] at c5 hm1 HEND
  have hz := fun w => Lib.run_eql_slice_nil (P := Tryz.prog) w 25 9 none 0 0 0 0 Tryz.underlying25
  obtain ⟨_, HO⟩ := HEND.out w w none 0 none 0 (by rw [hnil]; exact Sl.nil _ _) (Touch.refl _ _) (fun _ e => by cases e) (by rw [hnil]; exact Sl.nil _ _) (Touch.refl _ _) (fun _ e => by cases e)
  have HOO := lh HO
  clear hl0 hjl hlc hi hcm HO HEND HC1 HC2 HU HD HI hnil
  go_enter Tryz.func71, Tryz.ntmps71
  go_wp2
  all_goals
   go_ret
   exact HOO.out
 |some ad =>
  have hsp : ad.spot = none := by obtain ⟨hs, _⟩ := HI.out.inb.2.2.2 ad rfl; exact hs
  obtain ⟨g, o, sp⟩ := ad
  obtain rfl : sp = none := hsp
  have hj0 : (0 : Int) <= (j : Int) := by omega
  have hjc : (j : Int) <= (c : Int) := by omega
  have hjl2 : (j : Int) <= (st.inbox.length : Int) := by omega
  have hlc2 : (st.inbox.length : Int) <= (c : Int) := by omega
  generalize hil : st.inbox.length = il at *
  by_cases hcj : c = j
  ·have HD2 : Hid (∀ W, Fresh w W -> Rd strE W (some ⟨g, o, none⟩) (c - j) (st.inbox.drop j)) := fun W hf => by have := HD.out W hf; rwa [if_pos hcj] at this
   clear HD
   subst hcj
   have ez : il - c = 0 := by omega
   rw [ez] at HC2 HEND
   rw [Nat.sub_self] at HD2
   go_enter Tryz.func71, Tryz.ntmps71
   go_wp2_with fail
   refine (HC1.out _ _ HU.out).mono ?_
   rintro e w2 ⟨A2, d2, rfl, s2, f2, b2⟩
   have S2 := lh s2
   have F2 := lh f2
   have B2 := lh b2
   have c5' : w2.cell? ⟨p, 5, none⟩ = some (.slice (some ⟨g, o, none⟩) il c) := by
    have := (HI.out.old f2).blk.cell 5
    rw [this]
    exact ((HI.out.blk.cell 5).symm.trans c5)
   clear s2 f2 b2 HC1 HU c5 HI
   simp only
   go_wp2_with fail
   refine (HC2.out w2 _ _ (HD2.out w2 F2.out)).mono ?_
   rintro e w3 ⟨A3, d3, rfl, s3, f3, b3⟩
   obtain ⟨⟨c5'', fz'⟩, HO⟩ := HEND.out w2 w3 A2 d2 A3 d3 S2.out F2.out B2.out s3 f3 b3
   have HOO := lh HO
   clear s3 f3 b3 S2 F2 B2 HO HC2 HD2 HEND c5'
   simp only
   go_wp2
   go_ret
   exact HOO.out
  ·have HD2 : Hid (∀ W, Fresh w W -> Rd strE W (some ⟨g, o + j, none⟩) (c - j) (st.inbox.drop j)) := fun W hf => by
    have := HD.out W hf
    rw [if_neg hcj] at this
    simpa [Addr.add_lit, strE] using this
   clear HD
   go_enter Tryz.func71, Tryz.ntmps71
   go_wp2_with fail
   refine (HC1.out _ _ HU.out).mono ?_
   rintro e w2 ⟨A2, d2, rfl, s2, f2, b2⟩
   have S2 := lh s2
   have F2 := lh f2
   have B2 := lh b2
   have c5' : w2.cell? ⟨p, 5, none⟩ = some (.slice (some ⟨g, o, none⟩) il c) := by
    have := (HI.out.old f2).blk.cell 5
    rw [this]
    exact ((HI.out.blk.cell 5).symm.trans c5)
   clear s2 f2 b2 HC1 HU c5 HI
   simp only
   go_wp2_with fail
   refine (HC2.out w2 _ _ (HD2.out w2 F2.out)).mono ?_
   rintro e w3 ⟨A3, d3, rfl, s3, f3, b3⟩
   obtain ⟨⟨c5'', fz'⟩, HO⟩ := HEND.out w2 w3 A2 d2 A3 d3 S2.out F2.out B2.out s3 f3 b3
   have HOO := lh HO
   clear s3 f3 b3 S2 F2 B2 HO HC2 HD2 HEND c5'
   simp only
   go_wp2
   go_ret
   exact HOO.out
end Go.Proofs.YtnenaemincfgpaaGreat
